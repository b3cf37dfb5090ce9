/- The walk of the law 'MleafKnown'. -/
import Derived.Test.YtgkjhlmfgaaddaaLMn
set_option linter.unusedVariables false
set_option linter.unusedSimpArgs false
namespace Go.Proofs.Ytgkjhlmfgaaddaa.LF
open Go.RowKit
set_option linter.unusedVariables false

abbrev kab : MarkV := ⟨7017171169396654080, 2⟩
abbrev kabc : MarkV := ⟨7017280021047803904, 3⟩
abbrev knine : MarkV := ⟨3544952156018063160, 9⟩
abbrev kb : MarkV := ⟨7061644215716937728, 1⟩
def kd : LeafV := (delL w2 kb).1
theorem kn1 : ofM ⟨#[97, 98]⟩ 0 = kab := by kernel_rfl
theorem kn2 : ofM ⟨#[98]⟩ 0 = kb := by kernel_rfl
theorem kn3 : ofM ⟨#[49, 50, 51, 52, 53, 54, 55, 56, 57]⟩ 0 = knine := by kernel_rfl
theorem kn4 : ofM ⟨#[97, 98]⟩ 1 = noMark := by kernel_rfl
theorem kn5 : ofM ⟨#[97, 98, 99]⟩ 0 = kabc := by kernel_rfl
theorem kn6 : w1.p = 17134975606245761281 := by kernel_rfl
theorem kn7 : kd.p = 17134975606245761041 := by kernel_rfl
theorem kn8 : (delL w2 kb).2.1 = ⟨kb, noBytes, ⟨#[49]⟩, false, 0, 0⟩ := by kernel_rfl
theorem kn9 : (delL w2 kb).2.2 = true := by kernel_rfl
theorem kn10 : textM kab = ⟨#[97, 98, 0, 0, 0, 0, 0, 0, 2]⟩ := by kernel_rfl
theorem kd_ok : kd.ok := delL_ok w2_ok _
theorem kab_ok : kab.ok := ⟨by decide, by decide, by decide, by decide⟩
theorem kabc_ok : kabc.ok := ⟨by decide, by decide, by decide, by decide⟩
theorem knine_ok : knine.ok := ⟨by decide, by decide, by decide, by decide⟩
theorem stZero (l : LeafV) : splice (ti31.zero.cells.toList.map constLV) 0 (leafL l) = leafL l := by rw [zeroLeaf]; exact stLeaf _ _
theorem stZeroS (s : SlotV) : splice (ti28.zero.cells.toList.map constLV) 0 (slotL s) = slotL s := by kernel_rfl
theorem rightS_F {G : Ctx} (hP : G.P = Try.prog) (s : SlotV) (hm : s.m.ok) {b : Bool} (h : rightS s = b) : LFun G 13 [.agg (slotL s)] (.one (bv b)) := h ▸ right_S hP s hm

set_option maxHeartbeats 16000000 in
set_option maxRecDepth 20000 in
theorem mknown_L {G : Ctx} (hP : G.P = Try.prog) (S : LS) : LCalls G 8 [] (fun r _ => r = .one (bv true)) S := by
  have hD : TabOK G.P D := by rw [hP]; exact hD0
  have ea : EqTy G.P D 24 := by rw [hP]; exact eqMark
  have c1 := of_M hP ⟨#[97, 98]⟩ 0 (by decide)
  rw [kn1] at c1
  have c2 := new_L hP
  have c3 := slot_F hP ⟨#[98]⟩ ⟨#[49]⟩ (by decide)
  have c4 := slot_F hP ⟨#[97]⟩ ⟨#[50]⟩ (by decide)
  have c5 : LFun G 16 [.agg (leafL newL), .agg (slotL sb)] (.tup [.agg (leafL w1), .agg (slotL (putL newL sb).2.1), .one (bv (putL newL sb).2.2)]) := putLeaf_L hP newL newL_ok sb sb_ok
  have c6 : LFun G 16 [.agg (leafL w1), .agg (slotL sa)] (.tup [.agg (leafL w2), .agg (slotL (putL w1 sa).2.1), .one (bv (putL w1 sa).2.2)]) := putLeaf_L hP w1 w1_ok sa sa_ok
  have c7 := of_M hP ⟨#[98]⟩ 0 (by decide)
  rw [kn2] at c7
  have c8 : LFun G 37 [.agg (leafL w2), .agg (markL kb)] (.tup [.agg (leafL kd), .agg (slotL (delL w2 kb).2.1), .one (bv (delL w2 kb).2.2)]) := delLeaf_L hP w2 w2_ok kb
  rw [kn8, kn9] at c8
  have c9 := of_M hP ⟨#[49, 50, 51, 52, 53, 54, 55, 56, 57]⟩ 0 (by decide)
  rw [kn3] at c9
  have c10 := awake_F hP
  have c11 := text_F hP kab kab_ok
  rw [kn10] at c11
  have c12 := of_M hP ⟨#[97, 98]⟩ 1 (by decide)
  rw [kn4] at c12
  have c13 := len_L hP kd kd_ok.p
  rw [kn7] at c13
  have c13 : LFun G 15 [.agg (leafL kd)] (.one (iv 1)) := c13
  have c14 := of_M hP ⟨#[97, 98, 99]⟩ 0 (by decide)
  rw [kn5] at c14
  have c15 := rightS_F hP ⟨kabc, ⟨#[120]⟩, noBytes, false, 0, 0⟩ kabc_ok (b := false) (by kernel_rfl)
  have c16 := rightS_F hP ⟨knine, noBytes, noBytes, false, 0, 0⟩ knine_ok (b := false) (by kernel_rfl)
  have c17 := rightS_F hP ⟨knine, noBytes, ⟨#[120]⟩, true, 0, 0⟩ knine_ok (b := false) (by kernel_rfl)
  have c18 := rightS_F hP ⟨knine, noBytes, noBytes, true, 0, 0⟩ knine_ok (b := true) (by kernel_rfl)
  refine LCalls.enter (fn := Try.f8) (by rw [hP]; exact Try.func8) rfl rfl ?_
  repeat (first | refine LOps.nil ?_ | refine andThen_normal ?_ | refine andThen_exit ?_ | refine andThen_ret ?_ | refine inBlock_normal ?_ | refine inBlock_ret ?_ | refine inBlock_here ?_ | refine inBlock_out rfl ?_ | refine LWp.seq ?_ | refine LWp.region ?_ | refine LWp.block ?_ | refine LWp.exit ?_ | refine LWp.ret ?_ | refine LWp.skip ?_ | refine LOps.val (LVal.call rfl rfl (by rw [hP]; exact Try.func29) rfl (by decide) (c1)) rfl rfl rfl ?_ | refine LOps.whenC (LVal.call rfl rfl (by rw [hP]; exact Try.func29) rfl (by decide) (c1)) ?_ | refine LOps.valA ?_ | refine LOps.outA ?_ | refine LOps.whenA ?_ | refine LOps.pickA ?_ | refine LOps.storeA ?_)
  have hle := LS.le.refl S
  refine LOps.do (LDo.alloc hD rfl rfl rfl) rfl rfl rfl ?_
  rintro _ _ ⟨b1, hb1, rfl, rfl⟩
  have s1 := hle.none hb1
  refine LOps.gen (fun S' => S.le S' ∧ S'.box b1 = some (markL noMark)) ⟨hle.newBox hb1 _, box_new _ _ _⟩ ?_
  clear hle hb1 
  rintro S1 ⟨hle, k1⟩
  repeat (first | refine LOps.nil ?_ | refine andThen_normal ?_ | refine andThen_exit ?_ | refine andThen_ret ?_ | refine inBlock_normal ?_ | refine inBlock_ret ?_ | refine inBlock_here ?_ | refine inBlock_out rfl ?_ | refine LWp.seq ?_ | refine LWp.region ?_ | refine LWp.block ?_ | refine LWp.exit ?_ | refine LWp.ret ?_ | refine LWp.skip ?_ | refine LOps.valA ?_ | refine LOps.outA ?_ | refine LOps.whenA ?_ | refine LOps.pickA ?_ | refine LOps.storeA ?_)
  refine LOps.gen (fun S' => S.le S' ∧ S'.box b1 = some (markL kab)) ⟨hle.setBox s1 _, box_set _ _ _⟩ ?_
  clear hle k1
  rintro S1 ⟨hle, k1⟩
  repeat (first | refine LOps.nil ?_ | refine andThen_normal ?_ | refine andThen_exit ?_ | refine andThen_ret ?_ | refine inBlock_normal ?_ | refine inBlock_ret ?_ | refine inBlock_here ?_ | refine inBlock_out rfl ?_ | refine LWp.seq ?_ | refine LWp.region ?_ | refine LWp.block ?_ | refine LWp.exit ?_ | refine LWp.ret ?_ | refine LWp.skip ?_ | refine LOps.val (LVal.call rfl rfl (by rw [hP]; exact Try.func38) rfl (by decide) (c2)) rfl rfl rfl ?_ | refine LOps.val (LVal.call rfl rfl (by rw [hP]; exact Try.func39) rfl (by decide) (c3)) rfl rfl rfl ?_ | refine LOps.val (LVal.call rfl rfl (by rw [hP]; exact Try.func16) rfl (by decide) (c5)) rfl rfl rfl ?_ | refine LOps.whenC (LVal.call rfl rfl (by rw [hP]; exact Try.func38) rfl (by decide) (c2)) ?_ | refine LOps.whenC (LVal.call rfl rfl (by rw [hP]; exact Try.func39) rfl (by decide) (c3)) ?_ | refine LOps.whenC (LVal.call rfl rfl (by rw [hP]; exact Try.func16) rfl (by decide) (c5)) ?_ | refine LOps.valA ?_ | refine LOps.outA ?_ | refine LOps.whenA ?_ | refine LOps.pickA ?_ | refine LOps.storeA ?_)
  refine LOps.do (LDo.alloc hD rfl rfl rfl) rfl rfl rfl ?_
  rintro _ _ ⟨b2, hb2, rfl, rfl⟩
  have n1_2 := fresh_ne hb2 k1
  have s2 := hle.none hb2
  refine LOps.gen (fun S' => S.le S' ∧ S'.box b1 = some (markL kab) ∧ S'.box b2 = some (leafL noLeaf)) ⟨hle.newBox hb2 _, (box_new_ne _ _ n1_2).trans k1, (box_new _ _ _).trans (congrArg some zeroLeaf)⟩ ?_
  clear hle k1 hb2
  rintro S2 ⟨hle, k1, k2⟩
  refine LOps.do (LDo.alloc hD rfl rfl rfl) rfl rfl rfl ?_
  rintro _ _ ⟨b3, hb3, rfl, rfl⟩
  have n1_3 := fresh_ne hb3 k1
  have n2_3 := fresh_ne hb3 k2
  have s3 := hle.none hb3
  refine LOps.gen (fun S' => S.le S' ∧ S'.box b1 = some (markL kab) ∧ S'.box b2 = some (leafL noLeaf) ∧ S'.box b3 = some (slotL noSlot)) ⟨hle.newBox hb3 _, (box_new_ne _ _ n1_3).trans k1, (box_new_ne _ _ n2_3).trans k2, box_new _ _ _⟩ ?_
  clear hle k1 k2 hb3
  rintro S3 ⟨hle, k1, k2, k3⟩
  refine LOps.storeA (b := b2) (off := 0) (cs := leafL noLeaf) (l := leafL w1) ?_
  refine LOps.gen (fun S' => S.le S' ∧ S'.box b1 = some (markL kab) ∧ S'.box b2 = some (leafL w1) ∧ S'.box b3 = some (slotL noSlot)) ⟨hle.setBox s2 _, (box_set_ne _ _ n1_2).trans k1, (box_set _ _ _).trans (congrArg some (stLeaf _ _)), (box_set_ne _ _ n2_3.symm).trans k3⟩ ?_
  clear hle k1 k2 k3
  rintro S4 ⟨hle, k1, k2, k3⟩
  repeat (first | refine LOps.nil ?_ | refine andThen_normal ?_ | refine andThen_exit ?_ | refine andThen_ret ?_ | refine inBlock_normal ?_ | refine inBlock_ret ?_ | refine inBlock_here ?_ | refine inBlock_out rfl ?_ | refine LWp.seq ?_ | refine LWp.region ?_ | refine LWp.block ?_ | refine LWp.exit ?_ | refine LWp.ret ?_ | refine LWp.skip ?_ | refine LOps.valA ?_ | refine LOps.outA ?_ | refine LOps.whenA ?_ | refine LOps.pickA ?_ | refine LOps.storeA ?_)
  refine LWp.gen (fun S' => S.le S' ∧ S'.box b1 = some (markL kab) ∧ S'.box b2 = some (leafL w1)) ⟨hle.setBox s3 _, (box_set_ne _ _ n1_3).trans k1, (box_set_ne _ _ n2_3).trans k2⟩ ?_
  clear hle k1 k2 k3
  rintro S5 ⟨hle, k1, k2⟩
  refine LWp.join (fun T' S' => ∃ (b5 b6 : Nat) (T'' : Nat → TV), S.le S' ∧ S'.box b1 = some (markL kab) ∧ S'.box b2 = some (leafL w1) ∧ S'.box b5 = some (leafL w2) ∧ S'.box b6 = some (slotL (putL w1 sa).2.1) ∧ T' = over T'' [(1, ptr b1), (2, ptr b2), (5, ptr b5), (6, ptr b6)]) ?_ ?_
  · refine LWp.drawF (fun q _ => 4 ≤ q ∧ q ≤ 8) [0, 1, 2, 3, 4, 5, 6, 7, 8, 9, 10, 11] (by rw [hP]; rfl) rfl ?_
    repeat (first | refine LRl.valH (LVal.load hD rfl rfl k2 rfl (rdLeaf _)) ?_ (fun _ hS => LVal.load hD rfl rfl (hS.box _ _ k2 (by first | exact id | (intro hx; rcases hx with hx | hx <;> omega) | (intro hx; have hx2 : _ = _ := hx; omega))) rfl (rdLeaf _)) | refine LRl.valC (fun _ => (LVal.call rfl rfl (by rw [hP]; exact Try.func39) rfl (by decide) (c4))) ?_ | refine LRl.valC (fun _ => (LVal.call rfl rfl (by rw [hP]; exact Try.func16) rfl (by decide) (c6))) ?_ | refine LRl.whenC (fun _ => (LVal.call rfl rfl (by rw [hP]; exact Try.func39) rfl (by decide) (c4))) ?_ | refine LRl.whenC (fun _ => (LVal.call rfl rfl (by rw [hP]; exact Try.func16) rfl (by decide) (c6))) ?_ | refine LRl.nil ?_ | refine LRl.valA ?_ | refine LRl.outA ?_ | refine LRl.whenA ?_ | refine LRl.pickA ?_)
    refine LRl.alt [0, 1, 2, 3, 4, 5, 6, 8, 7, 9, 10, 11] rfl (LDo.alloc hD rfl rfl rfl) (LDo.alloc hD rfl rfl rfl) rfl rfl rfl rfl rfl rfl (by rintro _ _ ⟨b, hb, _, rfl⟩; exact fun _ _ => .newBox hb _) (by rintro _ _ ⟨b, hb, _, rfl⟩; exact fun _ _ => .newBox hb _) ?_ ?_
    · rintro _ _ ⟨b5, hb5, rfl, rfl⟩
      have n1_5 := fresh_ne hb5 k1
      have n2_5 := fresh_ne hb5 k2
      have s5 := hle.none hb5
      have q1 := (box_new_ne S5 (lzero ti31) n1_5).trans k1
      have q2 := (box_new_ne S5 (lzero ti31) n2_5).trans k2
      have hl2 := hle.newBox hb5 (lzero ti31)
      refine LRl.actA (LDo.alloc hD rfl rfl rfl).toAct rfl rfl rfl rfl (by rintro _ _ ⟨b, hb, rfl, rfl⟩ q _; exact .inl (.newBox hb _)) ?_
      rintro _ _ ⟨b6, hb6, rfl, rfl⟩
      have n5_6 : b5 ≠ b6 := fresh_ne hb6 (box_new S5 b5 (lzero ti31))
      have s6 := hl2.none hb6
      have n1_6 := fresh_ne hb6 q1
      have n2_6 := fresh_ne hb6 q2
      have p1 := (box_new_ne (S5.newBox b5 (lzero ti31)) (lzero ti28) n1_6).trans q1
      have p2 := (box_new_ne (S5.newBox b5 (lzero ti31)) (lzero ti28) n2_6).trans q2
      have p5 := (box_new_ne (S5.newBox b5 (lzero ti31)) (lzero ti28) n5_6).trans (box_new S5 b5 (lzero ti31))
      have p6 := box_new (S5.newBox b5 (lzero ti31)) b6 (lzero ti28)
      have hl3 := hl2.newBox hb6 (lzero ti28)
      refine LRl.actA0 (LDo.store hD rfl rfl (p5) rfl rfl rfl rfl).toAct rfl rfl rfl (by
        rintro _ _ ⟨rfl, rfl⟩ q hq
        rcases (by omega : q = 0 ∨ q = 1 ∨ q = 2 ∨ q = 3 ∨ q = 4 ∨ q = 5 ∨ q = 6 ∨ q = 7 ∨ q = 8) with h | h | h | h | h | h | h | h | h <;> subst h <;> first | exact .inr rfl | exact .inl (LS.leX.setBox (by omega) _)) ?_
      rintro _ _ ⟨rfl, rfl⟩
      refine LRl.actA0 (LDo.store hD rfl rfl ((box_set_ne _ _ n5_6.symm).trans p6) rfl rfl rfl rfl).toAct rfl rfl rfl (by
        rintro _ _ ⟨rfl, rfl⟩ q hq
        rcases (by omega : q = 0 ∨ q = 1 ∨ q = 2 ∨ q = 3 ∨ q = 4 ∨ q = 5 ∨ q = 6 ∨ q = 7 ∨ q = 8 ∨ q = 9) with h | h | h | h | h | h | h | h | h | h <;> subst h <;> first | exact .inr rfl | exact .inl (LS.leX.setBox (by omega) _)) ?_
      rintro _ _ ⟨rfl, rfl⟩
      repeat (first | refine LRl.nil ?_ | refine LRl.valA ?_ | refine LRl.outA ?_ | refine LRl.whenA ?_ | refine LRl.pickA ?_)
      exact ⟨b5, b6, _, (hl3.setBox s5 _).setBox s6 _, (box_set_ne _ _ n1_6).trans ((box_set_ne _ _ n1_5).trans p1), (box_set_ne _ _ n2_6).trans ((box_set_ne _ _ n2_5).trans p2), (box_set_ne _ _ (n5_6)).trans ((box_set _ _ _).trans (congrArg some (stZero _))), (box_set _ _ _).trans (congrArg some (stZeroS _)), holds.over ⟨rfl, rfl, rfl, rfl, trivial⟩⟩
    · rintro _ _ ⟨b6, hb6, rfl, rfl⟩
      have n1_6 := fresh_ne hb6 k1
      have n2_6 := fresh_ne hb6 k2
      have s6 := hle.none hb6
      have q1 := (box_new_ne S5 (lzero ti28) n1_6).trans k1
      have q2 := (box_new_ne S5 (lzero ti28) n2_6).trans k2
      have hl2 := hle.newBox hb6 (lzero ti28)
      refine LRl.actA (LDo.alloc hD rfl rfl rfl).toAct rfl rfl rfl rfl (by rintro _ _ ⟨b, hb, rfl, rfl⟩ q _; exact .inl (.newBox hb _)) ?_
      rintro _ _ ⟨b5, hb5, rfl, rfl⟩
      have n6_5 : b6 ≠ b5 := fresh_ne hb5 (box_new S5 b6 (lzero ti28))
      have s5 := hl2.none hb5
      have n1_5 := fresh_ne hb5 q1
      have n2_5 := fresh_ne hb5 q2
      have p1 := (box_new_ne (S5.newBox b6 (lzero ti28)) (lzero ti31) n1_5).trans q1
      have p2 := (box_new_ne (S5.newBox b6 (lzero ti28)) (lzero ti31) n2_5).trans q2
      have p6 := (box_new_ne (S5.newBox b6 (lzero ti28)) (lzero ti31) n6_5).trans (box_new S5 b6 (lzero ti28))
      have p5 := box_new (S5.newBox b6 (lzero ti28)) b5 (lzero ti31)
      have hl3 := hl2.newBox hb5 (lzero ti31)
      refine LRl.actA0 (LDo.store hD rfl rfl (p5) rfl rfl rfl rfl).toAct rfl rfl rfl (by
        rintro _ _ ⟨rfl, rfl⟩ q hq
        rcases (by omega : q = 0 ∨ q = 1 ∨ q = 2 ∨ q = 3 ∨ q = 4 ∨ q = 5 ∨ q = 6 ∨ q = 7 ∨ q = 8) with h | h | h | h | h | h | h | h | h <;> subst h <;> first | exact .inr rfl | exact .inl (LS.leX.setBox (by omega) _)) ?_
      rintro _ _ ⟨rfl, rfl⟩
      refine LRl.actA0 (LDo.store hD rfl rfl ((box_set_ne _ _ n6_5).trans p6) rfl rfl rfl rfl).toAct rfl rfl rfl (by
        rintro _ _ ⟨rfl, rfl⟩ q hq
        rcases (by omega : q = 0 ∨ q = 1 ∨ q = 2 ∨ q = 3 ∨ q = 4 ∨ q = 5 ∨ q = 6 ∨ q = 7 ∨ q = 8 ∨ q = 9) with h | h | h | h | h | h | h | h | h | h <;> subst h <;> first | exact .inr rfl | exact .inl (LS.leX.setBox (by omega) _)) ?_
      rintro _ _ ⟨rfl, rfl⟩
      repeat (first | refine LRl.nil ?_ | refine LRl.valA ?_ | refine LRl.outA ?_ | refine LRl.whenA ?_ | refine LRl.pickA ?_)
      exact ⟨b5, b6, _, (hl3.setBox s5 _).setBox s6 _, (box_set_ne _ _ n1_6).trans ((box_set_ne _ _ n1_5).trans p1), (box_set_ne _ _ n2_6).trans ((box_set_ne _ _ n2_5).trans p2), (box_set_ne _ _ (n6_5.symm)).trans ((box_set _ _ _).trans (congrArg some (stZero _))), (box_set _ _ _).trans (congrArg some (stZeroS _)), holds.over ⟨rfl, rfl, rfl, rfl, trivial⟩⟩
  clear hle k1 k2
  rintro _ S6 ⟨b5, b6, T2, hle, k1, k2, k5, _, rfl⟩
  repeat (first | refine LOps.nil ?_ | refine andThen_normal ?_ | refine andThen_exit ?_ | refine andThen_ret ?_ | refine inBlock_normal ?_ | refine inBlock_ret ?_ | refine inBlock_here ?_ | refine inBlock_out rfl ?_ | refine LWp.seq ?_ | refine LWp.region ?_ | refine LWp.block ?_ | refine LWp.exit ?_ | refine LWp.ret ?_ | refine LWp.skip ?_ | refine LOps.valA ?_ | refine LOps.outA ?_ | refine LOps.whenA ?_ | refine LOps.pickA ?_ | refine LOps.storeA ?_)
  refine LWp.join (fun T' S' => ∃ (b8 b9 : Nat) (T'' : Nat → TV), S.le S' ∧ S'.box b1 = some (markL kab) ∧ S'.box b2 = some (leafL w1) ∧ S'.box b5 = some (leafL w2) ∧ S'.box b8 = some (leafL kd) ∧ S'.box b9 = some (slotL ⟨kb, noBytes, ⟨#[49]⟩, false, 0, 0⟩) ∧ T' = over T'' [(1, ptr b1), (2, ptr b2), (8, ptr b8), (9, ptr b9), (10, .one (bv true))]) ?_ ?_
  · refine LWp.drawF (fun q _ => 4 ≤ q ∧ q ≤ 8) [0, 1, 2, 3, 4, 5, 6, 7, 8, 9, 10, 11] (by rw [hP]; rfl) rfl ?_
    repeat (first | refine LRl.valH (LVal.load hD rfl rfl k5 rfl (rdLeaf _)) ?_ (fun _ hS => LVal.load hD rfl rfl (hS.box _ _ k5 (by first | exact id | (intro hx; rcases hx with hx | hx <;> omega) | (intro hx; have hx2 : _ = _ := hx; omega))) rfl (rdLeaf _)) | refine LRl.valC (fun _ => (LVal.call rfl rfl (by rw [hP]; exact Try.func29) rfl (by decide) (c7))) ?_ | refine LRl.valC (fun _ => (LVal.call rfl rfl (by rw [hP]; exact Try.func37) rfl (by decide) (c8))) ?_ | refine LRl.whenC (fun _ => (LVal.call rfl rfl (by rw [hP]; exact Try.func29) rfl (by decide) (c7))) ?_ | refine LRl.whenC (fun _ => (LVal.call rfl rfl (by rw [hP]; exact Try.func37) rfl (by decide) (c8))) ?_ | refine LRl.nil ?_ | refine LRl.valA ?_ | refine LRl.outA ?_ | refine LRl.whenA ?_ | refine LRl.pickA ?_)
    refine LRl.alt [0, 1, 2, 3, 4, 5, 6, 8, 7, 9, 10, 11] rfl (LDo.alloc hD rfl rfl rfl) (LDo.alloc hD rfl rfl rfl) rfl rfl rfl rfl rfl rfl (by rintro _ _ ⟨b, hb, _, rfl⟩; exact fun _ _ => .newBox hb _) (by rintro _ _ ⟨b, hb, _, rfl⟩; exact fun _ _ => .newBox hb _) ?_ ?_
    · rintro _ _ ⟨b8, hb8, rfl, rfl⟩
      have n1_8 := fresh_ne hb8 k1
      have n2_8 := fresh_ne hb8 k2
      have n5_8 := fresh_ne hb8 k5
      have s8 := hle.none hb8
      have q1 := (box_new_ne S6 (lzero ti31) n1_8).trans k1
      have q2 := (box_new_ne S6 (lzero ti31) n2_8).trans k2
      have q5 := (box_new_ne S6 (lzero ti31) n5_8).trans k5
      have hl2 := hle.newBox hb8 (lzero ti31)
      refine LRl.actA (LDo.alloc hD rfl rfl rfl).toAct rfl rfl rfl rfl (by rintro _ _ ⟨b, hb, rfl, rfl⟩ q _; exact .inl (.newBox hb _)) ?_
      rintro _ _ ⟨b9, hb9, rfl, rfl⟩
      have n8_9 : b8 ≠ b9 := fresh_ne hb9 (box_new S6 b8 (lzero ti31))
      have s9 := hl2.none hb9
      have n1_9 := fresh_ne hb9 q1
      have n2_9 := fresh_ne hb9 q2
      have n5_9 := fresh_ne hb9 q5
      have p1 := (box_new_ne (S6.newBox b8 (lzero ti31)) (lzero ti28) n1_9).trans q1
      have p2 := (box_new_ne (S6.newBox b8 (lzero ti31)) (lzero ti28) n2_9).trans q2
      have p5 := (box_new_ne (S6.newBox b8 (lzero ti31)) (lzero ti28) n5_9).trans q5
      have p8 := (box_new_ne (S6.newBox b8 (lzero ti31)) (lzero ti28) n8_9).trans (box_new S6 b8 (lzero ti31))
      have p9 := box_new (S6.newBox b8 (lzero ti31)) b9 (lzero ti28)
      have hl3 := hl2.newBox hb9 (lzero ti28)
      refine LRl.actA0 (LDo.store hD rfl rfl (p8) rfl rfl rfl rfl).toAct rfl rfl rfl (by
        rintro _ _ ⟨rfl, rfl⟩ q hq
        rcases (by omega : q = 0 ∨ q = 1 ∨ q = 2 ∨ q = 3 ∨ q = 4 ∨ q = 5 ∨ q = 6 ∨ q = 7 ∨ q = 8) with h | h | h | h | h | h | h | h | h <;> subst h <;> first | exact .inr rfl | exact .inl (LS.leX.setBox (by omega) _)) ?_
      rintro _ _ ⟨rfl, rfl⟩
      refine LRl.actA0 (LDo.store hD rfl rfl ((box_set_ne _ _ n8_9.symm).trans p9) rfl rfl rfl rfl).toAct rfl rfl rfl (by
        rintro _ _ ⟨rfl, rfl⟩ q hq
        rcases (by omega : q = 0 ∨ q = 1 ∨ q = 2 ∨ q = 3 ∨ q = 4 ∨ q = 5 ∨ q = 6 ∨ q = 7 ∨ q = 8 ∨ q = 9) with h | h | h | h | h | h | h | h | h | h <;> subst h <;> first | exact .inr rfl | exact .inl (LS.leX.setBox (by omega) _)) ?_
      rintro _ _ ⟨rfl, rfl⟩
      repeat (first | refine LRl.nil ?_ | refine LRl.valA ?_ | refine LRl.outA ?_ | refine LRl.whenA ?_ | refine LRl.pickA ?_)
      exact ⟨b8, b9, _, (hl3.setBox s8 _).setBox s9 _, (box_set_ne _ _ n1_9).trans ((box_set_ne _ _ n1_8).trans p1), (box_set_ne _ _ n2_9).trans ((box_set_ne _ _ n2_8).trans p2), (box_set_ne _ _ n5_9).trans ((box_set_ne _ _ n5_8).trans p5), (box_set_ne _ _ (n8_9)).trans ((box_set _ _ _).trans (congrArg some (stZero _))), (box_set _ _ _).trans (congrArg some (stZeroS _)), holds.over ⟨rfl, rfl, rfl, rfl, rfl, trivial⟩⟩
    · rintro _ _ ⟨b9, hb9, rfl, rfl⟩
      have n1_9 := fresh_ne hb9 k1
      have n2_9 := fresh_ne hb9 k2
      have n5_9 := fresh_ne hb9 k5
      have s9 := hle.none hb9
      have q1 := (box_new_ne S6 (lzero ti28) n1_9).trans k1
      have q2 := (box_new_ne S6 (lzero ti28) n2_9).trans k2
      have q5 := (box_new_ne S6 (lzero ti28) n5_9).trans k5
      have hl2 := hle.newBox hb9 (lzero ti28)
      refine LRl.actA (LDo.alloc hD rfl rfl rfl).toAct rfl rfl rfl rfl (by rintro _ _ ⟨b, hb, rfl, rfl⟩ q _; exact .inl (.newBox hb _)) ?_
      rintro _ _ ⟨b8, hb8, rfl, rfl⟩
      have n9_8 : b9 ≠ b8 := fresh_ne hb8 (box_new S6 b9 (lzero ti28))
      have s8 := hl2.none hb8
      have n1_8 := fresh_ne hb8 q1
      have n2_8 := fresh_ne hb8 q2
      have n5_8 := fresh_ne hb8 q5
      have p1 := (box_new_ne (S6.newBox b9 (lzero ti28)) (lzero ti31) n1_8).trans q1
      have p2 := (box_new_ne (S6.newBox b9 (lzero ti28)) (lzero ti31) n2_8).trans q2
      have p5 := (box_new_ne (S6.newBox b9 (lzero ti28)) (lzero ti31) n5_8).trans q5
      have p9 := (box_new_ne (S6.newBox b9 (lzero ti28)) (lzero ti31) n9_8).trans (box_new S6 b9 (lzero ti28))
      have p8 := box_new (S6.newBox b9 (lzero ti28)) b8 (lzero ti31)
      have hl3 := hl2.newBox hb8 (lzero ti31)
      refine LRl.actA0 (LDo.store hD rfl rfl (p8) rfl rfl rfl rfl).toAct rfl rfl rfl (by
        rintro _ _ ⟨rfl, rfl⟩ q hq
        rcases (by omega : q = 0 ∨ q = 1 ∨ q = 2 ∨ q = 3 ∨ q = 4 ∨ q = 5 ∨ q = 6 ∨ q = 7 ∨ q = 8) with h | h | h | h | h | h | h | h | h <;> subst h <;> first | exact .inr rfl | exact .inl (LS.leX.setBox (by omega) _)) ?_
      rintro _ _ ⟨rfl, rfl⟩
      refine LRl.actA0 (LDo.store hD rfl rfl ((box_set_ne _ _ n9_8).trans p9) rfl rfl rfl rfl).toAct rfl rfl rfl (by
        rintro _ _ ⟨rfl, rfl⟩ q hq
        rcases (by omega : q = 0 ∨ q = 1 ∨ q = 2 ∨ q = 3 ∨ q = 4 ∨ q = 5 ∨ q = 6 ∨ q = 7 ∨ q = 8 ∨ q = 9) with h | h | h | h | h | h | h | h | h | h <;> subst h <;> first | exact .inr rfl | exact .inl (LS.leX.setBox (by omega) _)) ?_
      rintro _ _ ⟨rfl, rfl⟩
      repeat (first | refine LRl.nil ?_ | refine LRl.valA ?_ | refine LRl.outA ?_ | refine LRl.whenA ?_ | refine LRl.pickA ?_)
      exact ⟨b8, b9, _, (hl3.setBox s8 _).setBox s9 _, (box_set_ne _ _ n1_9).trans ((box_set_ne _ _ n1_8).trans p1), (box_set_ne _ _ n2_9).trans ((box_set_ne _ _ n2_8).trans p2), (box_set_ne _ _ n5_9).trans ((box_set_ne _ _ n5_8).trans p5), (box_set_ne _ _ (n9_8.symm)).trans ((box_set _ _ _).trans (congrArg some (stZero _))), (box_set _ _ _).trans (congrArg some (stZeroS _)), holds.over ⟨rfl, rfl, rfl, rfl, rfl, trivial⟩⟩
  clear hle k1 k2 k5
  rintro _ S7 ⟨b8, b9, T3, hle, k1, k2, _, k8, k9, rfl⟩
  repeat (first | refine LOps.nil ?_ | refine andThen_normal ?_ | refine andThen_exit ?_ | refine andThen_ret ?_ | refine inBlock_normal ?_ | refine inBlock_ret ?_ | refine inBlock_here ?_ | refine inBlock_out rfl ?_ | refine LWp.seq ?_ | refine LWp.region ?_ | refine LWp.block ?_ | refine LWp.exit ?_ | refine LWp.ret ?_ | refine LWp.skip ?_ | refine LOps.val (LVal.call rfl rfl (by rw [hP]; exact Try.func29) rfl (by decide) (c9)) rfl rfl rfl ?_ | refine LOps.whenC (LVal.call rfl rfl (by rw [hP]; exact Try.func29) rfl (by decide) (c9)) ?_ | refine LOps.valA ?_ | refine LOps.outA ?_ | refine LOps.whenA ?_ | refine LOps.pickA ?_ | refine LOps.storeA ?_)
  refine LOps.do (LDo.alloc hD rfl rfl rfl) rfl rfl rfl ?_
  rintro _ _ ⟨b11, hb11, rfl, rfl⟩
  have n1_11 := fresh_ne hb11 k1
  have n2_11 := fresh_ne hb11 k2
  have n8_11 := fresh_ne hb11 k8
  have n9_11 := fresh_ne hb11 k9
  have s11 := hle.none hb11
  refine LOps.gen (fun S' => S.le S' ∧ S'.box b1 = some (markL kab) ∧ S'.box b2 = some (leafL w1) ∧ S'.box b8 = some (leafL kd) ∧ S'.box b9 = some (slotL ⟨kb, noBytes, ⟨#[49]⟩, false, 0, 0⟩) ∧ S'.box b11 = some (markL noMark)) ⟨hle.newBox hb11 _, (box_new_ne _ _ n1_11).trans k1, (box_new_ne _ _ n2_11).trans k2, (box_new_ne _ _ n8_11).trans k8, (box_new_ne _ _ n9_11).trans k9, box_new _ _ _⟩ ?_
  clear hle hb11 k1 k2 k8 k9
  rintro S8 ⟨hle, k1, k2, k8, k9, k11⟩
  repeat (first | refine LOps.nil ?_ | refine andThen_normal ?_ | refine andThen_exit ?_ | refine andThen_ret ?_ | refine inBlock_normal ?_ | refine inBlock_ret ?_ | refine inBlock_here ?_ | refine inBlock_out rfl ?_ | refine LWp.seq ?_ | refine LWp.region ?_ | refine LWp.block ?_ | refine LWp.exit ?_ | refine LWp.ret ?_ | refine LWp.skip ?_ | refine LOps.valA ?_ | refine LOps.outA ?_ | refine LOps.whenA ?_ | refine LOps.pickA ?_ | refine LOps.storeA ?_)
  refine LOps.gen (fun S' => S.le S' ∧ S'.box b1 = some (markL kab) ∧ S'.box b2 = some (leafL w1) ∧ S'.box b8 = some (leafL kd) ∧ S'.box b9 = some (slotL ⟨kb, noBytes, ⟨#[49]⟩, false, 0, 0⟩) ∧ S'.box b11 = some (markL knine)) ⟨hle.setBox s11 _, (box_set_ne _ _ n1_11).trans k1, (box_set_ne _ _ n2_11).trans k2, (box_set_ne _ _ n8_11).trans k8, (box_set_ne _ _ n9_11).trans k9, box_set _ _ _⟩ ?_
  clear hle k11 k1 k2 k8 k9
  rintro S9 ⟨hle, k1, k2, k8, k9, k11⟩
  repeat (first | refine LOps.valH (LVal.call rfl rfl (by rw [hP]; exact Try.func11) rfl (by decide) (c10)) ?_ | refine LOps.valH (LVal.call rfl rfl (by rw [hP]; exact Try.func32) rfl (by decide) (c11)) ?_ | refine LOps.valH (LVal.call rfl rfl (by rw [hP]; exact Try.func29) rfl (by decide) (c12)) ?_ | refine LOps.valH (LVal.call rfl rfl (by rw [hP]; exact Try.func15) rfl (by decide) (c13)) ?_ | refine LOps.valH (LVal.call rfl rfl (by rw [hP]; exact Try.func29) rfl (by decide) (c14)) ?_ | refine LOps.valH (LVal.call rfl rfl (by rw [hP]; exact Try.func13) rfl (by decide) (c15)) ?_ | refine LOps.valH (LVal.call rfl rfl (by rw [hP]; exact Try.func13) rfl (by decide) (c16)) ?_ | refine LOps.valH (LVal.call rfl rfl (by rw [hP]; exact Try.func13) rfl (by decide) (c17)) ?_ | refine LOps.valH (LVal.call rfl rfl (by rw [hP]; exact Try.func13) rfl (by decide) (c18)) ?_ | refine LOps.valH (LVal.to (LVal.load hD rfl rfl k2 rfl (rdPerm w1)) (r' := .one (u64 17134975606245761281)) (by rw [kn6]; rfl)) ?_ | refine LOps.valH (LVal.to (LVal.load hD rfl rfl k8 rfl (rdPerm kd)) (r' := .one (u64 17134975606245761041)) (by rw [kn7]; rfl)) ?_ | refine LOps.valH (LVal.load hD rfl rfl k8 rfl (rdLeaf kd)) ?_ | refine LOps.valH (LVal.to (LVal.eqAgg hD rfl rfl rfl rfl rfl ea rfl) (r' := .one (bv true)) (by rfl)) ?_ | refine LOps.valH (LVal.to (LVal.eqStr rfl rfl rfl) (r' := .one (bv true)) (by rfl)) ?_ | refine LOps.valH (LVal.to (LVal.binOp hD rfl rfl rfl rfl) (r' := .one (.v (.bool true))) (congrArg (fun b => TV.one (.v (.bool b))) (by first | exact decide_eq_true (by omega) | (rw [beq_iff_eq]; omega) | (rw [bne_iff_ne]; omega)))) ?_ | refine LOps.valH (LVal.to (LVal.binOp hD rfl rfl rfl rfl) (r' := .one (.v (.bool false))) (congrArg (fun b => TV.one (.v (.bool b))) (by first | exact decide_eq_false (by omega) | (rw [beq_eq_false_iff_ne]; omega) | (rw [bne_eq_false_iff_eq]; omega)))) ?_ | refine LOps.valW ?_ | refine LOps.nil ?_ | refine andThen_normal ?_ | refine andThen_exit ?_ | refine andThen_ret ?_ | refine inBlock_normal ?_ | refine inBlock_ret ?_ | refine inBlock_here ?_ | refine inBlock_out rfl ?_ | refine LWp.seq ?_ | refine LWp.region ?_ | refine LWp.block ?_ | refine LWp.exit ?_ | refine LWp.ret ?_ | refine LWp.skip ?_ | refine LOps.val (LVal.call rfl rfl (by rw [hP]; exact Try.func11) rfl (by decide) (c10)) rfl rfl rfl ?_ | refine LOps.val (LVal.call rfl rfl (by rw [hP]; exact Try.func32) rfl (by decide) (c11)) rfl rfl rfl ?_ | refine LOps.val (LVal.call rfl rfl (by rw [hP]; exact Try.func29) rfl (by decide) (c12)) rfl rfl rfl ?_ | refine LOps.val (LVal.call rfl rfl (by rw [hP]; exact Try.func15) rfl (by decide) (c13)) rfl rfl rfl ?_ | refine LOps.val (LVal.call rfl rfl (by rw [hP]; exact Try.func29) rfl (by decide) (c14)) rfl rfl rfl ?_ | refine LOps.val (LVal.call rfl rfl (by rw [hP]; exact Try.func13) rfl (by decide) (c15)) rfl rfl rfl ?_ | refine LOps.val (LVal.call rfl rfl (by rw [hP]; exact Try.func13) rfl (by decide) (c16)) rfl rfl rfl ?_ | refine LOps.val (LVal.call rfl rfl (by rw [hP]; exact Try.func13) rfl (by decide) (c17)) rfl rfl rfl ?_ | refine LOps.val (LVal.call rfl rfl (by rw [hP]; exact Try.func13) rfl (by decide) (c18)) rfl rfl rfl ?_ | refine LOps.whenC (LVal.call rfl rfl (by rw [hP]; exact Try.func11) rfl (by decide) (c10)) ?_ | refine LOps.whenC (LVal.call rfl rfl (by rw [hP]; exact Try.func32) rfl (by decide) (c11)) ?_ | refine LOps.whenC (LVal.call rfl rfl (by rw [hP]; exact Try.func29) rfl (by decide) (c12)) ?_ | refine LOps.whenC (LVal.call rfl rfl (by rw [hP]; exact Try.func15) rfl (by decide) (c13)) ?_ | refine LOps.whenC (LVal.call rfl rfl (by rw [hP]; exact Try.func29) rfl (by decide) (c14)) ?_ | refine LOps.whenC (LVal.call rfl rfl (by rw [hP]; exact Try.func13) rfl (by decide) (c15)) ?_ | refine LOps.whenC (LVal.call rfl rfl (by rw [hP]; exact Try.func13) rfl (by decide) (c16)) ?_ | refine LOps.whenC (LVal.call rfl rfl (by rw [hP]; exact Try.func13) rfl (by decide) (c17)) ?_ | refine LOps.whenC (LVal.call rfl rfl (by rw [hP]; exact Try.func13) rfl (by decide) (c18)) ?_ | refine LOps.valA ?_ | refine LOps.outA ?_ | refine LOps.whenA ?_ | refine LOps.pickA ?_ | refine LOps.storeA ?_)
  exact ⟨_, LRes.one rfl, rfl⟩
end Go.Proofs.Ytgkjhlmfgaaddaa.LF

namespace Go.Proofs.Ytgkjhlmfgaaddaa
open Go.RowKit LF
theorem mleafKnown_walk (W : World)  :
    Calls Try.prog 8 #[] W fun e W' => e = .returned (.bool true) ∧ Below W.heap.size W W' := by
  exact law_calls (fun G S h => mknown_L h S) .nil
end Go.Proofs.Ytgkjhlmfgaaddaa
