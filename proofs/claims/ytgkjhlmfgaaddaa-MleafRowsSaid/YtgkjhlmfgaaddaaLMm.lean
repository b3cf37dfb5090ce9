/- Leaves: what becomes of one keeps to the numbers' bounds; the laws' awake. -/
import Derived.Test.YtgkjhlmfgaaddaaLMl
set_option linter.unusedVariables false
set_option linter.unusedSimpArgs false
namespace Go.Proofs.Ytgkjhlmfgaaddaa.LF
open Go.RowKit
set_option linter.unusedVariables false

theorem LeafV.ok.up {l : LeafV} (h : l.ok) (k : Nat) {s : SlotV} (hs : s.m.ok) : (l.up k s).ok := ⟨h.p, fun j hj => by
  show (if j = k then s else l.slot j).m.ok
  split
  · exact hs
  · exact h.slot j hj, h.high⟩
theorem insW_lt {p i : Nat} (hn : p % 16 < 15) (hi : i ≤ p % 16) : insW p i < 18446744073709551616 := wd_word_lt (by omega) (by omega) (by omega)
theorem remW_lt {p i : Nat} (hn : p % 16 ≤ 15) (hi : i < p % 16) : remW p i < 18446744073709551616 := wd_word_lt (by omega) (by omega) (by omega)
theorem putL_ok {l : LeafV} (h : l.ok) {s : SlotV} (hs : s.m.ok) : (putL l s).1.ok := by
  unfold putL
  split
  · split
    · exact h.up _ hs
    · split
      · rename_i hn
        refine LeafV.ok.up (l := { l with p := insW l.p (findL l s.m).1 }) ⟨insW_lt hn (findL_le l s.m), h.slot, h.high⟩ _ hs
      · exact h
  · exact h
theorem delL_ok {l : LeafV} (h : l.ok) (m : MarkV) : (delL l m).1.ok := by
  unfold delL
  split
  · rename_i hf
    obtain ⟨hr, hlt⟩ := findL_yes hf
    exact LeafV.ok.up (l := { l with p := remW l.p (findL l m).1 }) ⟨remW_lt (rt_le (rightL_rt hr)) hlt, h.slot, h.high⟩ _ noMark_ok
  · exact h
theorem newL_ok : newL.ok := ⟨by decide, fun _ _ => noMark_ok, noMark_ok⟩
theorem rank_ok {l : LeafV} (h : l.ok) {k : Nat} (hr : rt (slots l.p) = true) (hk : k < 15) : (l.rank k).m.ok := h.slot _ (nib_low hr hk)

abbrev sb : SlotV := keySlot ⟨#[98]⟩ ⟨#[49]⟩
abbrev sa : SlotV := keySlot ⟨#[97]⟩ ⟨#[50]⟩
def w1 : LeafV := (putL newL sb).1
def w2 : LeafV := (putL w1 sa).1
theorem aw1 : (putL w1 sa).2.2 = false := by kernel_rfl
theorem aw2 : w2.p = 17134975606245761042 := by kernel_rfl
theorem aw3 : (atL w2 0).2 = true := by kernel_rfl
theorem aw4 : (atL w2 0).1.value = ⟨#[50]⟩ := by kernel_rfl
theorem aw5 : rightL w2 = true := by kernel_rfl
theorem sb_ok : sb.m.ok := ofM_ok _ _
theorem sa_ok : sa.m.ok := ofM_ok _ _
theorem w1_ok : w1.ok := putL_ok newL_ok sb_ok
theorem w2_ok : w2.ok := putL_ok w1_ok sa_ok

set_option maxHeartbeats 8000000 in
set_option maxRecDepth 10000 in
theorem awake_F {G : Ctx} (hP : G.P = Try.prog) : LFun G 11 [] (.one (bv true)) := LFun.of fun S => by
  have hD : TabOK G.P D := by rw [hP]; exact hD0
  have c1 := new_L hP
  have c2 := slot_F hP ⟨#[98]⟩ ⟨#[49]⟩ (by decide)
  have c3 := slot_F hP ⟨#[97]⟩ ⟨#[50]⟩ (by decide)
  have c4 : LFun G 16 [.agg (leafL newL), .agg (slotL sb)] (.tup [.agg (leafL w1), .agg (slotL (putL newL sb).2.1), .one (bv (putL newL sb).2.2)]) := putLeaf_L hP newL newL_ok sb sb_ok
  have c5 : LFun G 16 [.agg (leafL w1), .agg (slotL sa)] (.tup [.agg (leafL w2), .agg (slotL (putL w1 sa).2.1), .one (bv (putL w1 sa).2.2)]) := putLeaf_L hP w1 w1_ok sa sa_ok
  have c6 := at_L hP w2 w2_ok 0
  have c7 := right_L hP w2 w2_ok
  have c8 := len_L hP w2 w2_ok.p
  rw [aw1] at c5
  rw [aw3] at c6
  rw [aw5] at c7
  rw [aw2] at c8
  have c8 : LFun G 15 [.agg (leafL w2)] (.one (iv 2)) := c8
  refine LCalls.enter (fn := Try.f11) (by rw [hP]; exact Try.func11) rfl rfl ?_
  repeat (first | refine LOps.nil ?_ | refine andThen_normal ?_ | refine andThen_exit ?_ | refine andThen_ret ?_ | refine inBlock_normal ?_ | refine inBlock_ret ?_ | refine inBlock_here ?_ | refine inBlock_out rfl ?_ | refine LWp.seq ?_ | refine LWp.region ?_ | refine LWp.block ?_ | refine LWp.exit ?_ | refine LWp.ret ?_ | refine LWp.skip ?_ | refine LOps.val (LVal.call rfl rfl (by rw [hP]; exact Try.func38) rfl (by decide) (c1)) rfl rfl rfl ?_ | refine LOps.val (LVal.call rfl rfl (by rw [hP]; exact Try.func39) rfl (by decide) (c2)) rfl rfl rfl ?_ | refine LOps.val (LVal.call rfl rfl (by rw [hP]; exact Try.func16) rfl (by decide) (c4)) rfl rfl rfl ?_ | refine LOps.whenC (LVal.call rfl rfl (by rw [hP]; exact Try.func38) rfl (by decide) (c1)) ?_ | refine LOps.whenC (LVal.call rfl rfl (by rw [hP]; exact Try.func39) rfl (by decide) (c2)) ?_ | refine LOps.whenC (LVal.call rfl rfl (by rw [hP]; exact Try.func16) rfl (by decide) (c4)) ?_ | refine LOps.valA ?_ | refine LOps.outA ?_ | refine LOps.whenA ?_ | refine LOps.pickA ?_ | refine LOps.storeA ?_)
  have hle := LS.le.refl S
  refine LOps.do (LDo.alloc hD rfl rfl rfl) rfl rfl rfl ?_
  rintro _ _ ⟨b1, hb1, rfl, rfl⟩
  have s1 := hle.none hb1
  refine LOps.gen (fun S' => S.le S' ∧ S'.box b1 = some (leafL noLeaf)) ⟨hle.newBox hb1 _, (box_new _ _ _).trans (congrArg some zeroLeaf)⟩ ?_
  clear hle hb1 
  rintro S1 ⟨hle, k1⟩
  repeat (first | refine LOps.nil ?_ | refine andThen_normal ?_ | refine andThen_exit ?_ | refine andThen_ret ?_ | refine inBlock_normal ?_ | refine inBlock_ret ?_ | refine inBlock_here ?_ | refine inBlock_out rfl ?_ | refine LWp.seq ?_ | refine LWp.region ?_ | refine LWp.block ?_ | refine LWp.exit ?_ | refine LWp.ret ?_ | refine LWp.skip ?_ | refine LOps.valA ?_ | refine LOps.outA ?_ | refine LOps.whenA ?_ | refine LOps.pickA ?_ | refine LOps.storeA ?_)
  skip
  refine LOps.do (LDo.alloc hD rfl rfl rfl) rfl rfl rfl ?_
  rintro _ _ ⟨b2, hb2, rfl, rfl⟩
  have n1_2 := fresh_ne hb2 k1
  have m2_1 := n1_2.symm
  have s2 := hle.none hb2
  refine LOps.gen (fun S' => S.le S' ∧ S'.box b1 = some (leafL noLeaf) ∧ S'.box b2 = some (slotL noSlot)) ⟨hle.newBox hb2 _, (box_new_ne _ _ n1_2).trans k1, box_new _ _ _⟩ ?_
  clear hle hb2 k1
  rintro S2 ⟨hle, k1, k2⟩
  repeat (first | refine LOps.storeA (b := b1) (off := 0) (cs := leafL noLeaf) (l := leafL w1) ?_ | refine LOps.nil ?_ | refine andThen_normal ?_ | refine andThen_exit ?_ | refine andThen_ret ?_ | refine inBlock_normal ?_ | refine inBlock_ret ?_ | refine inBlock_here ?_ | refine inBlock_out rfl ?_ | refine LWp.seq ?_ | refine LWp.region ?_ | refine LWp.block ?_ | refine LWp.exit ?_ | refine LWp.ret ?_ | refine LWp.skip ?_ | refine LOps.valA ?_ | refine LOps.outA ?_ | refine LOps.whenA ?_ | refine LOps.pickA ?_ | refine LOps.storeA ?_)
  refine LWp.gen (fun S' => S.le S' ∧ S'.box b1 = some (leafL w1)) ⟨(hle.setBox s1 _).setBox s2 _, (box_set_ne _ _ n1_2).trans ((box_set _ _ _).trans (congrArg some (stLeaf _ _)))⟩ ?_
  clear hle k1 k2
  rintro S3 ⟨hle, k1⟩
  refine LWp.drawF (fun q _ => 5 ≤ q ∧ q ≤ 6) [0, 1, 2, 3, 4, 5, 6, 7, 8, 9, 10] (by rw [hP]; rfl) rfl ?_
  repeat (first | refine LRl.valH (LVal.load hD rfl rfl k1 rfl (rdLeaf _)) ?_ (fun _ hS => LVal.load hD rfl rfl (hS.box _ _ k1 (by first | exact id | (intro hx; rcases hx with hx | hx <;> omega) | (intro hx; have hx2 : _ = _ := hx; omega))) rfl (rdLeaf _)) | refine LRl.valC (fun _ => (LVal.call rfl rfl (by rw [hP]; exact Try.func39) rfl (by decide) (c3))) ?_ | refine LRl.valC (fun _ => (LVal.call rfl rfl (by rw [hP]; exact Try.func16) rfl (by decide) (c5))) ?_ | refine LRl.whenC (fun _ => (LVal.call rfl rfl (by rw [hP]; exact Try.func39) rfl (by decide) (c3))) ?_ | refine LRl.whenC (fun _ => (LVal.call rfl rfl (by rw [hP]; exact Try.func16) rfl (by decide) (c5))) ?_ | refine LRl.nil ?_ | refine LRl.valA ?_ | refine LRl.outA ?_ | refine LRl.whenA ?_ | refine LRl.pickA ?_)
  refine LRl.actA (LDo.alloc hD rfl rfl rfl).toAct rfl rfl rfl rfl (by rintro _ _ ⟨b, hb, rfl, rfl⟩ q _; exact .inl (.newBox hb _)) ?_
  rintro _ _ ⟨b4, hb4, rfl, rfl⟩
  have n14 := fresh_ne hb4 k1
  have s4 := hle.none hb4
  refine LRl.actA0 (LDo.store hD rfl rfl ((box_new_ne _ _ n14).trans k1) rfl rfl rfl rfl).toAct rfl rfl rfl (by
    rintro _ _ ⟨rfl, rfl⟩ q hq
    rcases (by omega : q = 0 ∨ q = 1 ∨ q = 2 ∨ q = 3 ∨ q = 4 ∨ q = 5 ∨ q = 6 ∨ q = 7) with h | h | h | h | h | h | h | h <;> subst h <;> first | exact .inr rfl | exact .inl (LS.leX.setBox (by omega) _)) ?_
  rintro _ _ ⟨rfl, rfl⟩
  refine LRl.actA0 (LDo.store hD rfl rfl ((box_set_ne _ _ n14.symm).trans (box_new _ _ _)) rfl rfl rfl rfl).toAct rfl rfl rfl (by
    rintro _ _ ⟨rfl, rfl⟩ q hq
    rcases (by omega : q = 0 ∨ q = 1 ∨ q = 2 ∨ q = 3 ∨ q = 4 ∨ q = 5 ∨ q = 6 ∨ q = 7 ∨ q = 8) with h | h | h | h | h | h | h | h | h <;> subst h <;> first | exact .inr rfl | exact .inl (LS.leX.setBox (by omega) _)) ?_
  rintro _ _ ⟨rfl, rfl⟩
  repeat (first | refine LRl.nil ?_ | refine LRl.valA ?_ | refine LRl.outA ?_ | refine LRl.whenA ?_ | refine LRl.pickA ?_)
  refine LWp.gen (fun S' => S.le S' ∧ S'.box b1 = some (leafL w2)) ⟨((hle.newBox hb4 _).setBox s1 _).setBox s4 _, (box_set_ne _ _ n14).trans ((box_set _ _ _).trans (congrArg some (stLeaf _ _)))⟩ ?_
  clear hle k1 hb4
  rintro S5 ⟨hle, k1⟩
  repeat (first | refine LOps.valH (LVal.load hD rfl rfl k1 rfl (rdLeaf _)) ?_ | refine LOps.nil ?_ | refine andThen_normal ?_ | refine andThen_exit ?_ | refine andThen_ret ?_ | refine inBlock_normal ?_ | refine inBlock_ret ?_ | refine inBlock_here ?_ | refine inBlock_out rfl ?_ | refine LWp.seq ?_ | refine LWp.region ?_ | refine LWp.block ?_ | refine LWp.exit ?_ | refine LWp.ret ?_ | refine LWp.skip ?_ | refine LOps.val (LVal.call rfl rfl (by rw [hP]; exact Try.func17) rfl (by decide) (c6)) rfl rfl rfl ?_ | refine LOps.whenC (LVal.call rfl rfl (by rw [hP]; exact Try.func17) rfl (by decide) (c6)) ?_ | refine LOps.valA ?_ | refine LOps.outA ?_ | refine LOps.whenA ?_ | refine LOps.pickA ?_ | refine LOps.storeA ?_)
  refine LOps.do (LDo.alloc hD rfl rfl rfl) rfl rfl rfl ?_
  rintro _ _ ⟨b6, hb6, rfl, rfl⟩
  have n16 := fresh_ne hb6 k1
  have n61 := n16.symm
  have s6 := hle.none hb6
  refine LOps.gen (fun S' => S.le S' ∧ S'.box b1 = some (leafL w2) ∧ S'.box b6 = some (slotL noSlot)) ⟨hle.newBox hb6 _, (box_new_ne _ _ n16).trans k1, box_new _ _ _⟩ ?_
  clear hle k1 hb6
  rintro S6 ⟨hle, k1, k6⟩
  have hw : w2.p = 17134975606245761042 := aw2
  repeat (first | refine LOps.valH (LVal.call rfl rfl (by rw [hP]; exact Try.func12) rfl (by decide) (c7)) ?_ | refine LOps.valH (LVal.call rfl rfl (by rw [hP]; exact Try.func15) rfl (by decide) (c8)) ?_ | refine LOps.valH (LVal.load hD rfl rfl k1 rfl (rdLeaf _)) ?_ | refine LOps.valH (LVal.to (LVal.load (r := .one (u64 (w2.p : Nat))) hD rfl rfl ((box_set_ne _ _ n16).trans k1) rfl (rdPerm w2)) (r' := .one (u64 17134975606245761042)) (by rw [hw]; rfl)) ?_ | refine LOps.valH (LVal.load hD rfl rfl ((box_set_ne _ _ n16).trans k1) rfl (rdLeaf w2)) ?_ | refine LOps.valH (LVal.to (LVal.eqStr rfl rfl rfl) (r' := .one (bv true)) (by show TV.one (bv (decide ((atL w2 0).1.value = ⟨#[50]⟩))) = _; rw [aw4]; rfl)) ?_ | refine LOps.valH (LVal.to (LVal.binOp hD rfl rfl rfl rfl) (r' := .one (.v (.bool true))) (congrArg (fun b => TV.one (.v (.bool b))) (by first | exact decide_eq_true (by omega) | (rw [beq_iff_eq]; omega) | (rw [bne_iff_ne]; omega)))) ?_ | refine LOps.valH (LVal.to (LVal.binOp hD rfl rfl rfl rfl) (r' := .one (.v (.bool false))) (congrArg (fun b => TV.one (.v (.bool b))) (by first | exact decide_eq_false (by omega) | (rw [beq_eq_false_iff_ne]; omega) | (rw [bne_eq_false_iff_eq]; omega)))) ?_ | refine LOps.valW ?_ | refine LOps.nil ?_ | refine andThen_normal ?_ | refine andThen_exit ?_ | refine andThen_ret ?_ | refine inBlock_normal ?_ | refine inBlock_ret ?_ | refine inBlock_here ?_ | refine inBlock_out rfl ?_ | refine LWp.seq ?_ | refine LWp.region ?_ | refine LWp.block ?_ | refine LWp.exit ?_ | refine LWp.ret ?_ | refine LWp.skip ?_ | refine LOps.val (LVal.call rfl rfl (by rw [hP]; exact Try.func12) rfl (by decide) (c7)) rfl rfl rfl ?_ | refine LOps.val (LVal.call rfl rfl (by rw [hP]; exact Try.func15) rfl (by decide) (c8)) rfl rfl rfl ?_ | refine LOps.whenC (LVal.call rfl rfl (by rw [hP]; exact Try.func12) rfl (by decide) (c7)) ?_ | refine LOps.whenC (LVal.call rfl rfl (by rw [hP]; exact Try.func15) rfl (by decide) (c8)) ?_ | refine LOps.valA ?_ | refine LOps.outA ?_ | refine LOps.whenA ?_ | refine LOps.pickA ?_ | refine LOps.storeA ?_)
  exact ⟨_, LRes.one rfl, rfl, hle.setBox s6 _⟩
end Go.Proofs.Ytgkjhlmfgaaddaa.LF
