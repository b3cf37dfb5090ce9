/- The program's Split. -/
import Derived.Test.YtgkjhlmfgaaddaaLMy
set_option linter.unusedVariables false
set_option linter.unusedSimpArgs false
namespace Go.Proofs.Ytgkjhlmfgaaddaa.LF
open Go.RowKit
set_option linter.unusedVariables false

theorem stZ : splice (leafL noLeaf) 0 (lzero ti31) = leafL noLeaf := by rw [show lzero ti31 = leafL noLeaf from zeroLeaf]; exact stLeaf _ _
theorem stZs (s : SlotV) : splice (ti28.zero.cells.toList.map constLV) 0 (slotL s) = slotL s := by kernel_rfl
theorem splitRes {G : Ctx} {n : Nat} {fn : Func} {T : Nat → TV} {S : LS} {a c u : Tmp} {b d e : Nat} {l r : LeafV} {m : MarkV} {t1 t2 : TypeId} {i1 i2 : TI} (hf : fn.results = #[.cell a t1, .cell c t1, .cell u t2]) (h1 : TIok G.P t1 i1) (ha1 : i1.isAgg = true) (hs1 : i1.size = 111) (h2 : TIok G.P t2 i2) (ha2 : i2.isAgg = true) (hs2 : i2.size = 2)
    (ha : T a = ptr b) (hb : S.box b = some (leafL l)) (hc : T c = ptr d) (hd : S.box d = some (leafL r)) (hu : T u = ptr e) (he : S.box e = some (markL m)) : LRes G n fn T S (.tup [.agg (leafL l), .agg (leafL r), .agg (markL m)]) :=
  LRes.many (vs := [.cell a t1, .cell c t1, .cell u t2]) hf rfl (.cons (.cell ha hb h1 (rdLeaf l ha1 hs1)) (.cons (.cell hc hd h1 (rdLeaf r ha1 hs1)) (.cons (.cell hu he h2 (readT_agg ha2 (by rw [List.drop_zero, hs2]; exact Nat.le_refl _) (by rw [List.drop_zero, List.take_of_length_le (by rw [hs2]; exact Nat.le_refl _)]))) .nil)))

set_option maxHeartbeats 32000000 in
set_option maxRecDepth 20000 in
theorem split_L {G : Ctx} (hP : G.P = Try.prog) (l : LeafV) (hl : l.ok) (x y : Int) : LFun G 42 [.agg (leafL l), .agg [iv x, u64 y]] (.tup [.agg (leafL (splitL l x y).1), .agg (leafL (splitL l x y).2.1), .agg (markL (splitL l x y).2.2)]) := LFun.of fun S => by
  have hD : TabOK G.P D := by rw [hP]; exact hD0
  have c1 := len_L hP l hl.p
  have c2 := right_L hP l hl
  have c3 := new_L hP
  refine LCalls.enter (fn := Try.f42) (by rw [hP]; exact Try.func42) rfl rfl ?_
  repeat (first | refine LOps.nil ?_ | refine andThen_normal ?_ | refine andThen_exit ?_ | refine andThen_ret ?_ | refine inBlock_normal ?_ | refine inBlock_ret ?_ | refine inBlock_here ?_ | refine inBlock_out rfl ?_ | refine LWp.seq ?_ | refine LWp.region ?_ | refine LWp.block ?_ | refine LWp.exit ?_ | refine LWp.ret ?_ | refine LWp.skip ?_ | refine LOps.valA ?_ | refine LOps.outA ?_ | refine LOps.whenA ?_ | refine LOps.pickA ?_ | refine LOps.storeA ?_)
  have hle := LS.le.refl S
  refine LOps.do (LDo.box rfl rfl) rfl rfl rfl ?_
  rintro _ _ ⟨b2, hb2, rfl, rfl⟩
  have s2 := hle.none hb2
  refine LOps.gen (fun S' => S.le S' ∧ S'.box b2 = some (leafL l)) ⟨hle.newBox hb2 _, box_new _ _ _⟩ ?_
  clear hle hb2 
  rintro S2 ⟨hle, k2⟩
  skip
  refine LOps.do (LDo.box rfl rfl) rfl rfl rfl ?_
  rintro _ _ ⟨b3, hb3, rfl, rfl⟩
  have n2_3 := fresh_ne hb3 k2
  have m3_2 := n2_3.symm
  have s3 := hle.none hb3
  refine LOps.gen (fun S' => S.le S' ∧ S'.box b2 = some (leafL l) ∧ S'.box b3 = some ([iv x, u64 y])) ⟨hle.newBox hb3 _, (box_new_ne _ _ n2_3).trans k2, box_new _ _ _⟩ ?_
  clear hle hb3 k2
  rintro S3 ⟨hle, k2, k3⟩
  skip
  refine LOps.do (LDo.alloc hD rfl rfl rfl) rfl rfl rfl ?_
  rintro _ _ ⟨b4, hb4, rfl, rfl⟩
  have n2_4 := fresh_ne hb4 k2
  have m4_2 := n2_4.symm
  have n3_4 := fresh_ne hb4 k3
  have m4_3 := n3_4.symm
  have s4 := hle.none hb4
  refine LOps.gen (fun S' => S.le S' ∧ S'.box b2 = some (leafL l) ∧ S'.box b3 = some ([iv x, u64 y]) ∧ S'.box b4 = some (leafL noLeaf)) ⟨hle.newBox hb4 _, (box_new_ne _ _ n2_4).trans k2, (box_new_ne _ _ n3_4).trans k3, (box_new _ _ _).trans (congrArg some zeroLeaf)⟩ ?_
  clear hle hb4 k2 k3
  rintro S4 ⟨hle, k2, k3, k4⟩
  skip
  refine LOps.do (LDo.alloc hD rfl rfl rfl) rfl rfl rfl ?_
  rintro _ _ ⟨b5, hb5, rfl, rfl⟩
  have n2_5 := fresh_ne hb5 k2
  have m5_2 := n2_5.symm
  have n3_5 := fresh_ne hb5 k3
  have m5_3 := n3_5.symm
  have n4_5 := fresh_ne hb5 k4
  have m5_4 := n4_5.symm
  have s5 := hle.none hb5
  refine LOps.gen (fun S' => S.le S' ∧ S'.box b2 = some (leafL l) ∧ S'.box b3 = some ([iv x, u64 y]) ∧ S'.box b4 = some (leafL noLeaf) ∧ S'.box b5 = some (leafL noLeaf)) ⟨hle.newBox hb5 _, (box_new_ne _ _ n2_5).trans k2, (box_new_ne _ _ n3_5).trans k3, (box_new_ne _ _ n4_5).trans k4, (box_new _ _ _).trans (congrArg some zeroLeaf)⟩ ?_
  clear hle hb5 k2 k3 k4
  rintro S5 ⟨hle, k2, k3, k4, k5⟩
  skip
  refine LOps.do (LDo.alloc hD rfl rfl rfl) rfl rfl rfl ?_
  rintro _ _ ⟨b6, hb6, rfl, rfl⟩
  have n2_6 := fresh_ne hb6 k2
  have m6_2 := n2_6.symm
  have n3_6 := fresh_ne hb6 k3
  have m6_3 := n3_6.symm
  have n4_6 := fresh_ne hb6 k4
  have m6_4 := n4_6.symm
  have n5_6 := fresh_ne hb6 k5
  have m6_5 := n5_6.symm
  have s6 := hle.none hb6
  refine LOps.gen (fun S' => S.le S' ∧ S'.box b2 = some (leafL l) ∧ S'.box b3 = some ([iv x, u64 y]) ∧ S'.box b4 = some (leafL noLeaf) ∧ S'.box b5 = some (leafL noLeaf) ∧ S'.box b6 = some (markL noMark)) ⟨hle.newBox hb6 _, (box_new_ne _ _ n2_6).trans k2, (box_new_ne _ _ n3_6).trans k3, (box_new_ne _ _ n4_6).trans k4, (box_new_ne _ _ n5_6).trans k5, box_new _ _ _⟩ ?_
  clear hle hb6 k2 k3 k4 k5
  rintro S6 ⟨hle, k2, k3, k4, k5, k6⟩
  by_cases hc : rightL l = true ∧ 2 ≤ l.p % 16
  rotate_left
  · have e : splitL l x y = (l, noLeaf, noMark) := by unfold splitL; rw [if_neg hc]
    rw [e]
    by_cases h2 : l.p % 16 < 2
    · repeat (first | refine LOps.valH (LVal.call rfl rfl (by rw [hP]; exact Try.func15) rfl (by decide) (c1)) ?_ | refine LOps.valH (LVal.load hD rfl rfl k2 rfl (rdLeaf l)) ?_ | refine LWp.condT rfl ?_ | refine LOps.val (LVal.build (l := lzero ti31) hD rfl rfl rfl rfl rfl rfl rfl) rfl rfl rfl ?_ | refine LOps.valH (LVal.to (LVal.binOp hD rfl rfl rfl rfl) (r' := .one (.v (.bool true))) (congrArg (fun b => TV.one (.v (.bool b))) (by first | exact decide_eq_true (by omega) | (rw [beq_iff_eq]; omega) | (rw [bne_iff_ne]; omega)))) ?_ | refine LOps.valH (LVal.to (LVal.binOp hD rfl rfl rfl rfl) (r' := .one (.v (.bool false))) (congrArg (fun b => TV.one (.v (.bool b))) (by first | exact decide_eq_false (by omega) | (rw [beq_eq_false_iff_ne]; omega) | (rw [bne_eq_false_iff_eq]; omega)))) ?_ | refine LOps.valW ?_ | refine LOps.nil ?_ | refine andThen_normal ?_ | refine andThen_exit ?_ | refine andThen_ret ?_ | refine inBlock_normal ?_ | refine inBlock_ret ?_ | refine inBlock_here ?_ | refine inBlock_out rfl ?_ | refine LWp.seq ?_ | refine LWp.region ?_ | refine LWp.block ?_ | refine LWp.exit ?_ | refine LWp.ret ?_ | refine LWp.skip ?_ | refine LOps.val (LVal.call rfl rfl (by rw [hP]; exact Try.func15) rfl (by decide) (c1)) rfl rfl rfl ?_ | refine LOps.whenC (LVal.call rfl rfl (by rw [hP]; exact Try.func15) rfl (by decide) (c1)) ?_ | refine LOps.valA ?_ | refine LOps.outA ?_ | refine LOps.whenA ?_ | refine LOps.pickA ?_)
      refine LOps.storeA (b := b4) (off := 0) (cs := leafL noLeaf) (l := leafL l) ?_
      refine LOps.gen (fun S' => S.le S' ∧ S'.box b2 = some (leafL l) ∧ S'.box b3 = some ([iv x, u64 y]) ∧ S'.box b4 = some (leafL l) ∧ S'.box b5 = some (leafL noLeaf) ∧ S'.box b6 = some (markL noMark)) ⟨hle.setBox s4 _, (box_set_ne _ _ n2_4).trans k2, (box_set_ne _ _ n3_4).trans k3, (box_set _ _ _).trans (congrArg some (stLeaf _ _)), (box_set_ne _ _ m5_4).trans k5, (box_set_ne _ _ m6_4).trans k6⟩ ?_
      clear hle k2 k3 k4 k5 k6
      rintro Ss ⟨hle, k2, k3, k4, k5, k6⟩
      refine LOps.storeA (b := b5) (off := 0) (cs := leafL noLeaf) (l := lzero ti31) ?_
      refine LOps.gen (fun S' => S.le S' ∧ S'.box b2 = some (leafL l) ∧ S'.box b3 = some ([iv x, u64 y]) ∧ S'.box b4 = some (leafL l) ∧ S'.box b5 = some (leafL noLeaf) ∧ S'.box b6 = some (markL noMark)) ⟨hle.setBox s5 _, (box_set_ne _ _ n2_5).trans k2, (box_set_ne _ _ n3_5).trans k3, (box_set_ne _ _ n4_5).trans k4, (box_set _ _ _).trans (congrArg some (stZ)), (box_set_ne _ _ m6_5).trans k6⟩ ?_
      clear hle k2 k3 k4 k5 k6
      rintro Ss ⟨hle, k2, k3, k4, k5, k6⟩
      refine LOps.storeA (b := b6) (off := 0) (cs := markL noMark) (l := markL noMark) ?_
      refine LOps.gen (fun S' => S.le S' ∧ S'.box b2 = some (leafL l) ∧ S'.box b3 = some ([iv x, u64 y]) ∧ S'.box b4 = some (leafL l) ∧ S'.box b5 = some (leafL noLeaf) ∧ S'.box b6 = some (markL noMark)) ⟨hle.setBox s6 _, (box_set_ne _ _ n2_6).trans k2, (box_set_ne _ _ n3_6).trans k3, (box_set_ne _ _ n4_6).trans k4, (box_set_ne _ _ n5_6).trans k5, (box_set _ _ _).trans (congrArg some (rfl))⟩ ?_
      clear hle k2 k3 k4 k5 k6
      rintro Ss ⟨hle, k2, k3, k4, k5, k6⟩
      repeat (first | refine LOps.nil ?_ | refine andThen_normal ?_ | refine andThen_exit ?_ | refine andThen_ret ?_ | refine inBlock_normal ?_ | refine inBlock_ret ?_ | refine inBlock_here ?_ | refine inBlock_out rfl ?_ | refine LWp.seq ?_ | refine LWp.region ?_ | refine LWp.block ?_ | refine LWp.exit ?_ | refine LWp.ret ?_ | refine LWp.skip ?_ | refine LOps.valA ?_ | refine LOps.outA ?_ | refine LOps.whenA ?_ | refine LOps.pickA ?_ | refine LOps.storeA ?_)
      exact ⟨_, splitRes rfl (hP ▸ tok31) rfl rfl (hP ▸ tok24) rfl rfl rfl k4 rfl k5 rfl k6, rfl, hle⟩
    · have hr : rightL l = false := by
        cases h : rightL l with
        | false => rfl
        | true => exact absurd ⟨h, by omega⟩ hc
      rw [hr] at c2
      repeat (first | refine LOps.valH (LVal.call rfl rfl (by rw [hP]; exact Try.func15) rfl (by decide) (c1)) ?_ | refine LOps.valH (LVal.call rfl rfl (by rw [hP]; exact Try.func12) rfl (by decide) (c2)) ?_ | refine LOps.valH (LVal.load hD rfl rfl k2 rfl (rdLeaf l)) ?_ | refine LWp.condT rfl ?_ | refine LOps.val (LVal.build (l := lzero ti31) hD rfl rfl rfl rfl rfl rfl rfl) rfl rfl rfl ?_ | refine LOps.valH (LVal.to (LVal.binOp hD rfl rfl rfl rfl) (r' := .one (.v (.bool true))) (congrArg (fun b => TV.one (.v (.bool b))) (by first | exact decide_eq_true (by omega) | (rw [beq_iff_eq]; omega) | (rw [bne_iff_ne]; omega)))) ?_ | refine LOps.valH (LVal.to (LVal.binOp hD rfl rfl rfl rfl) (r' := .one (.v (.bool false))) (congrArg (fun b => TV.one (.v (.bool b))) (by first | exact decide_eq_false (by omega) | (rw [beq_eq_false_iff_ne]; omega) | (rw [bne_eq_false_iff_eq]; omega)))) ?_ | refine LOps.valW ?_ | refine LOps.nil ?_ | refine andThen_normal ?_ | refine andThen_exit ?_ | refine andThen_ret ?_ | refine inBlock_normal ?_ | refine inBlock_ret ?_ | refine inBlock_here ?_ | refine inBlock_out rfl ?_ | refine LWp.seq ?_ | refine LWp.region ?_ | refine LWp.block ?_ | refine LWp.exit ?_ | refine LWp.ret ?_ | refine LWp.skip ?_ | refine LOps.val (LVal.call rfl rfl (by rw [hP]; exact Try.func15) rfl (by decide) (c1)) rfl rfl rfl ?_ | refine LOps.val (LVal.call rfl rfl (by rw [hP]; exact Try.func12) rfl (by decide) (c2)) rfl rfl rfl ?_ | refine LOps.whenC (LVal.call rfl rfl (by rw [hP]; exact Try.func15) rfl (by decide) (c1)) ?_ | refine LOps.whenC (LVal.call rfl rfl (by rw [hP]; exact Try.func12) rfl (by decide) (c2)) ?_ | refine LOps.valA ?_ | refine LOps.outA ?_ | refine LOps.whenA ?_ | refine LOps.pickA ?_)
      refine LOps.storeA (b := b4) (off := 0) (cs := leafL noLeaf) (l := leafL l) ?_
      refine LOps.gen (fun S' => S.le S' ∧ S'.box b2 = some (leafL l) ∧ S'.box b3 = some ([iv x, u64 y]) ∧ S'.box b4 = some (leafL l) ∧ S'.box b5 = some (leafL noLeaf) ∧ S'.box b6 = some (markL noMark)) ⟨hle.setBox s4 _, (box_set_ne _ _ n2_4).trans k2, (box_set_ne _ _ n3_4).trans k3, (box_set _ _ _).trans (congrArg some (stLeaf _ _)), (box_set_ne _ _ m5_4).trans k5, (box_set_ne _ _ m6_4).trans k6⟩ ?_
      clear hle k2 k3 k4 k5 k6
      rintro Ss ⟨hle, k2, k3, k4, k5, k6⟩
      refine LOps.storeA (b := b5) (off := 0) (cs := leafL noLeaf) (l := lzero ti31) ?_
      refine LOps.gen (fun S' => S.le S' ∧ S'.box b2 = some (leafL l) ∧ S'.box b3 = some ([iv x, u64 y]) ∧ S'.box b4 = some (leafL l) ∧ S'.box b5 = some (leafL noLeaf) ∧ S'.box b6 = some (markL noMark)) ⟨hle.setBox s5 _, (box_set_ne _ _ n2_5).trans k2, (box_set_ne _ _ n3_5).trans k3, (box_set_ne _ _ n4_5).trans k4, (box_set _ _ _).trans (congrArg some (stZ)), (box_set_ne _ _ m6_5).trans k6⟩ ?_
      clear hle k2 k3 k4 k5 k6
      rintro Ss ⟨hle, k2, k3, k4, k5, k6⟩
      refine LOps.storeA (b := b6) (off := 0) (cs := markL noMark) (l := markL noMark) ?_
      refine LOps.gen (fun S' => S.le S' ∧ S'.box b2 = some (leafL l) ∧ S'.box b3 = some ([iv x, u64 y]) ∧ S'.box b4 = some (leafL l) ∧ S'.box b5 = some (leafL noLeaf) ∧ S'.box b6 = some (markL noMark)) ⟨hle.setBox s6 _, (box_set_ne _ _ n2_6).trans k2, (box_set_ne _ _ n3_6).trans k3, (box_set_ne _ _ n4_6).trans k4, (box_set_ne _ _ n5_6).trans k5, (box_set _ _ _).trans (congrArg some (rfl))⟩ ?_
      clear hle k2 k3 k4 k5 k6
      rintro Ss ⟨hle, k2, k3, k4, k5, k6⟩
      repeat (first | refine LOps.nil ?_ | refine andThen_normal ?_ | refine andThen_exit ?_ | refine andThen_ret ?_ | refine inBlock_normal ?_ | refine inBlock_ret ?_ | refine inBlock_here ?_ | refine inBlock_out rfl ?_ | refine LWp.seq ?_ | refine LWp.region ?_ | refine LWp.block ?_ | refine LWp.exit ?_ | refine LWp.ret ?_ | refine LWp.skip ?_ | refine LOps.valA ?_ | refine LOps.outA ?_ | refine LOps.whenA ?_ | refine LOps.pickA ?_ | refine LOps.storeA ?_)
      exact ⟨_, splitRes rfl (hP ▸ tok31) rfl rfl (hP ▸ tok24) rfl rfl rfl k4 rfl k5 rfl k6, rfl, hle⟩
  have e : splitL l x y = (leftEnd l x y, rightEnd l, (l.rank (l.p % 16 / 2)).m) := by unfold splitL; rw [if_pos hc]
  rw [e]
  obtain ⟨hr, h2⟩ := hc
  have hf := (fit_iff l).1 hr
  have hn := hf.le
  rw [hr] at c2
  obtain ⟨n, hnn⟩ : ∃ n, n = l.p % 16 := ⟨_, rfl⟩
  rw [← hnn] at c1 h2 hn
  repeat (first | refine LOps.valH (LVal.call rfl rfl (by rw [hP]; exact Try.func15) rfl (by decide) (c1)) ?_ | refine LOps.valH (LVal.call rfl rfl (by rw [hP]; exact Try.func12) rfl (by decide) (c2)) ?_ | refine LOps.valH (LVal.load hD rfl rfl k2 rfl (rdLeaf l)) ?_ | refine LWp.condF rfl ?_ | refine LOps.valH (LVal.to (LVal.binOp hD rfl rfl rfl rfl) (r' := .one (.v (.bool true))) (congrArg (fun b => TV.one (.v (.bool b))) (by first | exact decide_eq_true (by omega) | (rw [beq_iff_eq]; omega) | (rw [bne_iff_ne]; omega)))) ?_ | refine LOps.valH (LVal.to (LVal.binOp hD rfl rfl rfl rfl) (r' := .one (.v (.bool false))) (congrArg (fun b => TV.one (.v (.bool b))) (by first | exact decide_eq_false (by omega) | (rw [beq_eq_false_iff_ne]; omega) | (rw [bne_eq_false_iff_eq]; omega)))) ?_ | refine LOps.valW ?_ | refine LOps.nil ?_ | refine andThen_normal ?_ | refine andThen_exit ?_ | refine andThen_ret ?_ | refine inBlock_normal ?_ | refine inBlock_ret ?_ | refine inBlock_here ?_ | refine inBlock_out rfl ?_ | refine LWp.seq ?_ | refine LWp.region ?_ | refine LWp.block ?_ | refine LWp.exit ?_ | refine LWp.ret ?_ | refine LWp.skip ?_ | refine LOps.val (LVal.call rfl rfl (by rw [hP]; exact Try.func15) rfl (by decide) (c1)) rfl rfl rfl ?_ | refine LOps.val (LVal.call rfl rfl (by rw [hP]; exact Try.func12) rfl (by decide) (c2)) rfl rfl rfl ?_ | refine LOps.whenC (LVal.call rfl rfl (by rw [hP]; exact Try.func15) rfl (by decide) (c1)) ?_ | refine LOps.whenC (LVal.call rfl rfl (by rw [hP]; exact Try.func12) rfl (by decide) (c2)) ?_ | refine LOps.valA ?_ | refine LOps.outA ?_ | refine LOps.whenA ?_ | refine LOps.pickA ?_ | refine LOps.storeA ?_)
  refine LWp.drawX (fun b => b = b4 ∨ b = b5) [0, 1, 2, 3] (by rw [hP]; rfl) rfl ?_
  repeat (first | refine LRl.valH (LVal.load hD rfl rfl k2 rfl (rdLeaf l)) ?_ (fun _ hS => LVal.load hD rfl rfl (hS.box _ _ k2 (by first | exact id | (intro hx; rcases hx with hx | hx <;> omega) | (intro hx; have hx2 : _ = _ := hx; omega) | (intro hx; exact absurd hx.1 (by decide)))) rfl (rdLeaf l)) | refine LRl.valC (fun _ => (LVal.call rfl rfl (by rw [hP]; exact Try.func38) rfl (by decide) (c3))) ?_ | refine LRl.whenC (fun _ => (LVal.call rfl rfl (by rw [hP]; exact Try.func38) rfl (by decide) (c3))) ?_ | refine LRl.nil ?_ | refine LRl.valA ?_ | refine LRl.outA ?_ | refine LRl.whenA ?_ | refine LRl.pickA ?_)
  refine LRl.actA0 (LDo.store hD rfl rfl (k4) rfl rfl rfl rfl).toAct rfl rfl rfl (by
    rintro _ _ ⟨rfl, rfl⟩ q hq
    rcases (by omega : q = 0 ∨ q = 1) with h | h <;> subst h <;> first | exact .inr rfl | exact .inl (LS.leX.setBox (by omega) _)) ?_
  rintro _ _ ⟨rfl, rfl⟩
  refine LRl.actA0 (LDo.store hD rfl rfl ((box_set_ne _ _ m5_4).trans k5) rfl rfl rfl rfl).toAct rfl rfl rfl (by
    rintro _ _ ⟨rfl, rfl⟩ q hq
    rcases (by omega : q = 0 ∨ q = 1 ∨ q = 2) with h | h | h <;> subst h <;> first | exact .inr rfl | exact .inl (LS.leX.setBox (by omega) _)) ?_
  rintro _ _ ⟨rfl, rfl⟩
  repeat (first | refine LRl.nil ?_ | refine LRl.valA ?_ | refine LRl.outA ?_ | refine LRl.whenA ?_ | refine LRl.pickA ?_)
  refine LWp.gen (fun S' => S.le S' ∧ S'.box b2 = some (leafL l) ∧ S'.box b3 = some [iv x, u64 y] ∧ S'.box b4 = some (leafL l) ∧ S'.box b5 = some (leafL newL) ∧ S'.box b6 = some (markL noMark)) ⟨(hle.setBox s4 _).setBox s5 _, (box_set_ne _ _ n2_5).trans ((box_set_ne _ _ n2_4).trans k2), (box_set_ne _ _ n3_5).trans ((box_set_ne _ _ n3_4).trans k3), (box_set_ne _ _ n4_5).trans ((box_set _ _ _).trans (congrArg some (stLeaf _ _))), (box_set _ _ _).trans (congrArg some (stLeaf _ _)), (box_set_ne _ _ m6_5).trans ((box_set_ne _ _ m6_4).trans k6)⟩ ?_
  clear hle k2 k3 k4 k5 k6
  rintro S7 ⟨hle, k2, k3, k4, k5, k6⟩
  refine LWp.seq ?_
  refine LWp.drawX (fun b => b = b5) [0, 1, 2, 3, 4, 5, 6, 7, 8, 9, 10, 11] (by rw [hP]; rfl) rfl ?_
  repeat (first | refine LRl.valH (LVal.load hD rfl rfl k2 rfl (rdHigh l)) ?_ (fun _ hS => LVal.load hD rfl rfl (hS.box _ _ k2 (by first | exact id | (intro hx; rcases hx with hx | hx <;> omega) | (intro hx; have hx2 : _ = _ := hx; omega) | (intro hx; exact absurd hx.1 (by decide)))) rfl (rdHigh l)) | refine LRl.valH (LVal.load hD rfl rfl k2 rfl (rdBounded l)) ?_ (fun _ hS => LVal.load hD rfl rfl (hS.box _ _ k2 (by first | exact id | (intro hx; rcases hx with hx | hx <;> omega) | (intro hx; have hx2 : _ = _ := hx; omega) | (intro hx; exact absurd hx.1 (by decide)))) rfl (rdBounded l)) | refine LRl.valH (LVal.load hD rfl rfl k2 rfl (rdNext l)) ?_ (fun _ hS => LVal.load hD rfl rfl (hS.box _ _ k2 (by first | exact id | (intro hx; rcases hx with hx | hx <;> omega) | (intro hx; have hx2 : _ = _ := hx; omega) | (intro hx; exact absurd hx.1 (by decide)))) rfl (rdNext l)) | refine LRl.nil ?_ | refine LRl.valA ?_ | refine LRl.outA ?_ | refine LRl.whenA ?_ | refine LRl.pickA ?_)
  refine LRl.actA0 (LDo.store hD rfl rfl (k5) rfl rfl rfl rfl).toAct rfl rfl rfl (by
    rintro _ _ ⟨rfl, rfl⟩ q hq
    rcases (by omega : q = 0 ∨ q = 1 ∨ q = 2 ∨ q = 3 ∨ q = 4 ∨ q = 5 ∨ q = 6) with h | h | h | h | h | h | h <;> subst h <;> first | exact .inr rfl | exact .inl (LS.leX.setBox (by omega) _)) ?_
  rintro _ _ ⟨rfl, rfl⟩
  repeat (first | refine LRl.nil ?_ | refine LRl.valA ?_ | refine LRl.outA ?_ | refine LRl.whenA ?_ | refine LRl.pickA ?_)
  refine LRl.actA0 (LDo.store hD rfl rfl ((box_set _ _ _).trans (congrArg some (stHigh _ _))) rfl rfl rfl rfl).toAct rfl rfl rfl (by
    rintro _ _ ⟨rfl, rfl⟩ q hq
    rcases (by omega : q = 0 ∨ q = 1 ∨ q = 2 ∨ q = 3 ∨ q = 4 ∨ q = 5 ∨ q = 6 ∨ q = 7 ∨ q = 8) with h | h | h | h | h | h | h | h | h <;> subst h <;> first | exact .inr rfl | exact .inl (LS.leX.setBox (by omega) _)) ?_
  rintro _ _ ⟨rfl, rfl⟩
  repeat (first | refine LRl.nil ?_ | refine LRl.valA ?_ | refine LRl.outA ?_ | refine LRl.whenA ?_ | refine LRl.pickA ?_)
  refine LRl.actA0 (LDo.store hD rfl rfl ((box_set _ _ _).trans (congrArg some (stBounded _ _))) rfl rfl rfl rfl).toAct rfl rfl rfl (by
    rintro _ _ ⟨rfl, rfl⟩ q hq
    rcases (by omega : q = 0 ∨ q = 1 ∨ q = 2 ∨ q = 3 ∨ q = 4 ∨ q = 5 ∨ q = 6 ∨ q = 7 ∨ q = 8 ∨ q = 9 ∨ q = 10) with h | h | h | h | h | h | h | h | h | h | h <;> subst h <;> first | exact .inr rfl | exact .inl (LS.leX.setBox (by omega) _)) ?_
  rintro _ _ ⟨rfl, rfl⟩
  repeat (first | refine LRl.nil ?_ | refine LRl.valA ?_ | refine LRl.outA ?_ | refine LRl.whenA ?_ | refine LRl.pickA ?_)
  refine LWp.gen (fun S' => S.le S' ∧ S'.box b2 = some (leafL l) ∧ S'.box b3 = some [iv x, u64 y] ∧ S'.box b4 = some (leafL l) ∧ S'.box b5 = some (leafL (right0 l)) ∧ S'.box b6 = some (markL noMark)) ⟨((hle.setBox s5 _).setBox s5 _).setBox s5 _, (box_set_ne _ _ n2_5).trans ((box_set_ne _ _ n2_5).trans ((box_set_ne _ _ n2_5).trans k2)), (box_set_ne _ _ n3_5).trans ((box_set_ne _ _ n3_5).trans ((box_set_ne _ _ n3_5).trans k3)), (box_set_ne _ _ n4_5).trans ((box_set_ne _ _ n4_5).trans ((box_set_ne _ _ n4_5).trans k4)), (box_set _ _ _).trans (congrArg some (stNext _ _ _)), (box_set_ne _ _ m6_5).trans ((box_set_ne _ _ m6_5).trans ((box_set_ne _ _ m6_5).trans k6))⟩ ?_
  clear hle k2 k3 k4 k5 k6
  rintro S8 ⟨hle, k2, k3, k4, k5, k6⟩
  repeat (first | refine LOps.nil ?_ | refine andThen_normal ?_ | refine andThen_exit ?_ | refine andThen_ret ?_ | refine inBlock_normal ?_ | refine inBlock_ret ?_ | refine inBlock_here ?_ | refine inBlock_out rfl ?_ | refine LWp.seq ?_ | refine LWp.region ?_ | refine LWp.block ?_ | refine LWp.exit ?_ | refine LWp.ret ?_ | refine LWp.skip ?_ | refine LOps.valA ?_ | refine LOps.outA ?_ | refine LOps.whenA ?_ | refine LOps.pickA ?_ | refine LOps.storeA ?_)
  refine LWp.loop (fun m T S' => ∃ (T' : Nat → TV) (k : Nat), k ≤ n - n / 2 ∧ m = n - n / 2 - k ∧ S.le S' ∧ S'.box b2 = some (leafL l) ∧ S'.box b3 = some [iv x, u64 y] ∧ S'.box b4 = some (leafL l) ∧ S'.box b5 = some (leafL (rightIt l k)) ∧ S'.box b6 = some (markL noMark) ∧ T = over T' [(2, ptr b2), (3, ptr b3), (4, ptr b4), (5, ptr b5), (6, ptr b6), (7, .one (iv (n : Nat))), (8, .one (iv ((n / 2 + k : Nat) : Int)))]) (n - n / 2) ?_ ?_
  · exact ⟨_, 0, by omega, rfl, hle, k2, k3, k4, k5, k6, holds.over ⟨rfl, rfl, rfl, rfl, rfl, rfl, congrArg (fun q => TV.one (iv q)) (by omega), trivial⟩⟩
  clear hle k2 k3 k4 k5 k6
  rintro m T S9 ⟨T', k, hk, rfl, hle, k2, k3, k4, k5, k6, rfl⟩
  repeat (first | refine LOps.nil ?_ | refine andThen_normal ?_ | refine andThen_exit ?_ | refine andThen_ret ?_ | refine inBlock_normal ?_ | refine inBlock_ret ?_ | refine inBlock_here ?_ | refine inBlock_out rfl ?_ | refine LWp.seq ?_ | refine LWp.region ?_ | refine LWp.block ?_ | refine LWp.exit ?_ | refine LWp.ret ?_ | refine LWp.skip ?_ | refine LOps.valA ?_ | refine LOps.outA ?_ | refine LOps.whenA ?_ | refine LOps.pickA ?_ | refine LOps.storeA ?_)
  refine LWp.cond rfl (fun h => ?_) (fun h => ?_)
  · have hlt : n / 2 + k < n := by
      have h : decide (((n / 2 + k : Nat) : Int) < (n : Int)) = true := h
      rw [decide_eq_true_iff] at h; omega
    clear h
    have ra := rightIt_at hf hl k (by omega)
    have r1 := at_L hP l hl ((n / 2 + k : Nat) : Int)
    rw [at_rank hf (by omega)] at r1
    have r2 := putLeaf_L hP (rightIt l k) ra.ok (l.rank (n / 2 + k)) (rank_ok hl (rt_yes hf.rt) (by omega))
    have e2 : (putL (rightIt l k) (l.rank (n / 2 + k))).1 = rightIt l (k + 1) := by rw [hnn]; rfl
    rw [e2] at r2
    repeat (first | refine LOps.valH (LVal.load hD rfl rfl k2 rfl (rdLeaf l)) ?_ | refine LOps.nil ?_ | refine andThen_normal ?_ | refine andThen_exit ?_ | refine andThen_ret ?_ | refine inBlock_normal ?_ | refine inBlock_ret ?_ | refine inBlock_here ?_ | refine inBlock_out rfl ?_ | refine LWp.seq ?_ | refine LWp.region ?_ | refine LWp.block ?_ | refine LWp.exit ?_ | refine LWp.ret ?_ | refine LWp.skip ?_ | refine LOps.val (LVal.call rfl rfl (by rw [hP]; exact Try.func17) rfl (by decide) (r1)) rfl rfl rfl ?_ | refine LOps.whenC (LVal.call rfl rfl (by rw [hP]; exact Try.func17) rfl (by decide) (r1)) ?_ | refine LOps.valA ?_ | refine LOps.outA ?_ | refine LOps.whenA ?_ | refine LOps.pickA ?_)
    skip
    refine LOps.do (LDo.alloc hD rfl rfl rfl) rfl rfl rfl ?_
    rintro _ _ ⟨b9, hb9, rfl, rfl⟩
    have n2_9 := fresh_ne hb9 k2
    have m9_2 := n2_9.symm
    have n3_9 := fresh_ne hb9 k3
    have m9_3 := n3_9.symm
    have n4_9 := fresh_ne hb9 k4
    have m9_4 := n4_9.symm
    have n5_9 := fresh_ne hb9 k5
    have m9_5 := n5_9.symm
    have n6_9 := fresh_ne hb9 k6
    have m9_6 := n6_9.symm
    have s9 := hle.none hb9
    refine LOps.gen (fun S' => S.le S' ∧ S'.box b2 = some (leafL l) ∧ S'.box b3 = some ([iv x, u64 y]) ∧ S'.box b4 = some (leafL l) ∧ S'.box b5 = some (leafL (rightIt l k)) ∧ S'.box b6 = some (markL noMark) ∧ S'.box b9 = some (slotL noSlot)) ⟨hle.newBox hb9 _, (box_new_ne _ _ n2_9).trans k2, (box_new_ne _ _ n3_9).trans k3, (box_new_ne _ _ n4_9).trans k4, (box_new_ne _ _ n5_9).trans k5, (box_new_ne _ _ n6_9).trans k6, box_new _ _ _⟩ ?_
    clear hle hb9 k2 k3 k4 k5 k6
    rintro S9 ⟨hle, k2, k3, k4, k5, k6, k9⟩
    refine LOps.storeA (b := b9) (off := 0) (cs := slotL noSlot) (l := slotL (l.rank (n / 2 + k))) ?_
    refine LOps.gen (fun S' => S.le S' ∧ S'.box b2 = some (leafL l) ∧ S'.box b3 = some ([iv x, u64 y]) ∧ S'.box b4 = some (leafL l) ∧ S'.box b5 = some (leafL (rightIt l k)) ∧ S'.box b6 = some (markL noMark) ∧ S'.box b9 = some (slotL (l.rank (n / 2 + k)))) ⟨hle.setBox s9 _, (box_set_ne _ _ n2_9).trans k2, (box_set_ne _ _ n3_9).trans k3, (box_set_ne _ _ n4_9).trans k4, (box_set_ne _ _ n5_9).trans k5, (box_set_ne _ _ n6_9).trans k6, (box_set _ _ _).trans (congrArg some (rfl))⟩ ?_
    clear hle k2 k3 k4 k5 k6 k9
    rintro Ss ⟨hle, k2, k3, k4, k5, k6, k9⟩
    repeat (first | refine LOps.valH (LVal.load hD rfl rfl k5 rfl (rdLeaf (rightIt l k))) ?_ | refine LOps.nil ?_ | refine andThen_normal ?_ | refine andThen_exit ?_ | refine andThen_ret ?_ | refine inBlock_normal ?_ | refine inBlock_ret ?_ | refine inBlock_here ?_ | refine inBlock_out rfl ?_ | refine LWp.seq ?_ | refine LWp.region ?_ | refine LWp.block ?_ | refine LWp.exit ?_ | refine LWp.ret ?_ | refine LWp.skip ?_ | refine LOps.val (LVal.call rfl rfl (by rw [hP]; exact Try.func16) rfl (by decide) (r2)) rfl rfl rfl ?_ | refine LOps.whenC (LVal.call rfl rfl (by rw [hP]; exact Try.func16) rfl (by decide) (r2)) ?_ | refine LOps.valA ?_ | refine LOps.outA ?_ | refine LOps.whenA ?_ | refine LOps.pickA ?_)
    refine LOps.storeA (b := b5) (off := 0) (cs := leafL (rightIt l k)) (l := leafL (rightIt l (k + 1))) ?_
    refine LOps.gen (fun S' => S.le S' ∧ S'.box b2 = some (leafL l) ∧ S'.box b3 = some ([iv x, u64 y]) ∧ S'.box b4 = some (leafL l) ∧ S'.box b5 = some (leafL (rightIt l (k + 1))) ∧ S'.box b6 = some (markL noMark) ∧ S'.box b9 = some (slotL (l.rank (n / 2 + k)))) ⟨hle.setBox s5 _, (box_set_ne _ _ n2_5).trans k2, (box_set_ne _ _ n3_5).trans k3, (box_set_ne _ _ n4_5).trans k4, (box_set _ _ _).trans (congrArg some (stLeaf _ _)), (box_set_ne _ _ m6_5).trans k6, (box_set_ne _ _ m9_5).trans k9⟩ ?_
    clear hle k2 k3 k4 k5 k6 k9
    rintro Ss ⟨hle, k2, k3, k4, k5, k6, k9⟩
    repeat (first | refine LOps.nil ?_ | refine andThen_normal ?_ | refine andThen_exit ?_ | refine andThen_ret ?_ | refine inBlock_normal ?_ | refine inBlock_ret ?_ | refine inBlock_here ?_ | refine inBlock_out rfl ?_ | refine LWp.seq ?_ | refine LWp.region ?_ | refine LWp.block ?_ | refine LWp.exit ?_ | refine LWp.ret ?_ | refine LWp.skip ?_ | refine LOps.valA ?_ | refine LOps.outA ?_ | refine LOps.whenA ?_ | refine LOps.pickA ?_ | refine LOps.storeA ?_)
    exact ⟨n - n / 2 - (k + 1), by omega, _, k + 1, by omega, rfl, hle, k2, k3, k4, k5, k6, holds.over ⟨rfl, rfl, rfl, rfl, rfl, rfl, congrArg (fun q => TV.one (iv q)) (show ((n / 2 + k : Nat) : Int) + 1 = ((n / 2 + (k + 1) : Nat) : Int) by omega), trivial⟩⟩
  have hge : k = n - n / 2 := by
    have h : decide (((n / 2 + k : Nat) : Int) < (n : Int)) = false := h
    rw [decide_eq_false_iff_not] at h; omega
  subst hge
  clear h hk
  repeat (first | refine LOps.nil ?_ | refine andThen_normal ?_ | refine andThen_exit ?_ | refine andThen_ret ?_ | refine inBlock_normal ?_ | refine inBlock_ret ?_ | refine inBlock_here ?_ | refine inBlock_out rfl ?_ | refine LWp.seq ?_ | refine LWp.region ?_ | refine LWp.block ?_ | refine LWp.exit ?_ | refine LWp.ret ?_ | refine LWp.skip ?_ | refine LOps.valA ?_ | refine LOps.outA ?_ | refine LOps.whenA ?_ | refine LOps.pickA ?_ | refine LOps.storeA ?_)
  refine LWp.loop (fun m T S' => ∃ (T' : Nat → TV) (k : Nat) (sep : MarkV), k ≤ n - n / 2 ∧ m = n - n / 2 - k ∧ (0 < k → sep = (l.rank (n - k)).m) ∧ S.le S' ∧ S'.box b3 = some [iv x, u64 y] ∧ S'.box b4 = some (leafL (leftIt l k)) ∧ S'.box b5 = some (leafL (rightEnd l)) ∧ S'.box b6 = some (markL sep) ∧ T = over T' [(3, ptr b3), (4, ptr b4), (5, ptr b5), (6, ptr b6), (7, .one (iv (n : Nat)))]) (n - n / 2) ?_ ?_
  · exact ⟨_, 0, noMark, by omega, rfl, fun h => by omega, hle, k3, k4, k5.trans (by rw [hnn]; rfl), k6, holds.over ⟨rfl, rfl, rfl, rfl, rfl, trivial⟩⟩
  clear hle k2 k3 k4 k5 k6
  rintro m T S10 ⟨T', k, sep, hk, rfl, hsep, hle, k3, k4, k5, k6, rfl⟩
  have la := leftIt_at hf hl k (by omega)
  have lan := la.n
  rw [← hnn] at lan
  have r3 := len_L hP (leftIt l k) la.ok.p
  rw [lan] at r3
  repeat (first | refine LOps.valH (LVal.load hD rfl rfl k4 rfl (rdLeaf (leftIt l k))) ?_ | refine LOps.nil ?_ | refine andThen_normal ?_ | refine andThen_exit ?_ | refine andThen_ret ?_ | refine inBlock_normal ?_ | refine inBlock_ret ?_ | refine inBlock_here ?_ | refine inBlock_out rfl ?_ | refine LWp.seq ?_ | refine LWp.region ?_ | refine LWp.block ?_ | refine LWp.exit ?_ | refine LWp.ret ?_ | refine LWp.skip ?_ | refine LOps.val (LVal.call rfl rfl (by rw [hP]; exact Try.func15) rfl (by decide) (r3)) rfl rfl rfl ?_ | refine LOps.whenC (LVal.call rfl rfl (by rw [hP]; exact Try.func15) rfl (by decide) (r3)) ?_ | refine LOps.valA ?_ | refine LOps.outA ?_ | refine LOps.whenA ?_ | refine LOps.pickA ?_ | refine LOps.storeA ?_)
  refine LWp.cond rfl (fun h => ?_) (fun h => ?_)
  · have hlt : k < n - n / 2 := by
      have h : decide (((n - k : Nat) : Int) > (n : Int) / 2) = true := h
      rw [decide_eq_true_iff] at h; omega
    clear h
    have las := la.last hf (k := k) (by omega)
    rw [← hnn] at las
    have hro : (l.rank (n - 1 - k)).m.ok := rank_ok hl (rt_yes hf.rt) (by omega)
    have r4 := at_L hP (leftIt l k) la.ok (((n - k : Nat) : Int) - 1)
    have e4 : atL (leftIt l k) (((n - k : Nat) : Int) - 1) = (l.rank (n - 1 - k), true) := by
      rw [show ((n - k : Nat) : Int) - 1 = ((n - 1 - k : Nat) : Int) by omega, at_rank la.fit (by rw [lan]; omega), la.rk _ (by omega)]
    rw [e4] at r4
    have r5 := delLeaf_L hP (leftIt l k) la.ok (l.rank (n - 1 - k)).m
    have e5 : (delL (leftIt l k) (l.rank (n - 1 - k)).m).1 = leftIt l (k + 1) := by rw [hnn]; rfl
    rw [e5] at r5
    clear las e4 e5
    repeat (first | refine LOps.nil ?_ | refine andThen_normal ?_ | refine andThen_exit ?_ | refine andThen_ret ?_ | refine inBlock_normal ?_ | refine inBlock_ret ?_ | refine inBlock_here ?_ | refine inBlock_out rfl ?_ | refine LWp.seq ?_ | refine LWp.region ?_ | refine LWp.block ?_ | refine LWp.exit ?_ | refine LWp.ret ?_ | refine LWp.skip ?_ | refine LOps.valA ?_ | refine LOps.outA ?_ | refine LOps.whenA ?_ | refine LOps.pickA ?_ | refine LOps.storeA ?_)
    refine LWp.drawF (fun q _ => q = 7) [0, 1, 2, 3, 4, 5, 6, 7, 8, 9, 10] (by rw [hP]; rfl) rfl ?_
    repeat (first | refine LRl.valH (LVal.load hD rfl rfl k4 rfl (rdLeaf (leftIt l k))) ?_ (fun _ hS => LVal.load hD rfl rfl (hS.box _ _ k4 (by first | exact id | (intro hx; rcases hx with hx | hx <;> omega) | (intro hx; have hx2 : _ = _ := hx; omega) | (intro hx; exact absurd hx.1 (by decide)))) rfl (rdLeaf (leftIt l k))) | refine LRl.valC (fun _ => (LVal.call rfl rfl (by rw [hP]; exact Try.func15) rfl (by decide) (r3))) ?_ | refine LRl.valC (fun _ => (LVal.call rfl rfl (by rw [hP]; exact Try.func17) rfl (by decide) (r4))) ?_ | refine LRl.whenC (fun _ => (LVal.call rfl rfl (by rw [hP]; exact Try.func15) rfl (by decide) (r3))) ?_ | refine LRl.whenC (fun _ => (LVal.call rfl rfl (by rw [hP]; exact Try.func17) rfl (by decide) (r4))) ?_ | refine LRl.nil ?_ | refine LRl.valA ?_ | refine LRl.outA ?_ | refine LRl.whenA ?_ | refine LRl.pickA ?_)
    refine LRl.actA (LDo.alloc hD rfl rfl rfl).toAct rfl rfl rfl rfl (by rintro _ _ ⟨b, hb, rfl, rfl⟩ q _; exact .inl (.newBox hb _)) ?_
    rintro _ _ ⟨b11, hb11, rfl, rfl⟩
    have n3_11 := fresh_ne hb11 k3
    have n4_11 := fresh_ne hb11 k4
    have n5_11 := fresh_ne hb11 k5
    have n6_11 := fresh_ne hb11 k6
    have s11 := hle.none hb11
    have m11_4 := n4_11.symm
    have m11_6 := n6_11.symm
    refine LRl.actA0 (LDo.store hD rfl rfl (box_new _ _ _) rfl rfl rfl rfl).toAct rfl rfl rfl (by
      rintro _ _ ⟨rfl, rfl⟩ q hq
      rcases (by omega : q = 0 ∨ q = 1 ∨ q = 2 ∨ q = 3 ∨ q = 4 ∨ q = 5 ∨ q = 6 ∨ q = 7 ∨ q = 8) with h | h | h | h | h | h | h | h | h <;> subst h <;> first | exact .inr rfl | exact .inl (LS.leX.setBox (by omega) _)) ?_
    rintro _ _ ⟨rfl, rfl⟩
    repeat (first | refine LRl.nil ?_ | refine LRl.valA ?_ | refine LRl.outA ?_ | refine LRl.whenA ?_ | refine LRl.pickA ?_)
    refine LWp.gen (fun S' => S.le S' ∧ S'.box b3 = some [iv x, u64 y] ∧ S'.box b4 = some (leafL (leftIt l k)) ∧ S'.box b5 = some (leafL (rightEnd l)) ∧ S'.box b6 = some (markL sep) ∧ S'.box b11 = some (slotL (l.rank (n - 1 - k)))) ⟨(hle.newBox hb11 _).setBox s11 _, (box_set_ne _ _ n3_11).trans ((box_new_ne _ _ n3_11).trans k3), (box_set_ne _ _ n4_11).trans ((box_new_ne _ _ n4_11).trans k4), (box_set_ne _ _ n5_11).trans ((box_new_ne _ _ n5_11).trans k5), (box_set_ne _ _ n6_11).trans ((box_new_ne _ _ n6_11).trans k6), (box_set _ _ _).trans (congrArg some (stZs _))⟩ ?_
    clear hle k3 k4 k5 k6 hb11
    rintro S11 ⟨hle, k3, k4, k5, k6, k11⟩
    repeat (first | refine LOps.valH (LVal.load hD rfl rfl k4 rfl (rdLeaf (leftIt l k))) ?_ | refine LOps.nil ?_ | refine andThen_normal ?_ | refine andThen_exit ?_ | refine andThen_ret ?_ | refine inBlock_normal ?_ | refine inBlock_ret ?_ | refine inBlock_here ?_ | refine inBlock_out rfl ?_ | refine LWp.seq ?_ | refine LWp.region ?_ | refine LWp.block ?_ | refine LWp.exit ?_ | refine LWp.ret ?_ | refine LWp.skip ?_ | refine LOps.val (LVal.call rfl rfl (by rw [hP]; exact Try.func37) rfl (by decide) (r5)) rfl rfl rfl ?_ | refine LOps.whenC (LVal.call rfl rfl (by rw [hP]; exact Try.func37) rfl (by decide) (r5)) ?_ | refine LOps.valA ?_ | refine LOps.outA ?_ | refine LOps.whenA ?_ | refine LOps.pickA ?_)
    refine LOps.storeA (b := b4) (off := 0) (cs := leafL (leftIt l k)) (l := leafL (leftIt l (k + 1))) ?_
    refine LOps.gen (fun S' => S.le S' ∧ S'.box b3 = some ([iv x, u64 y]) ∧ S'.box b4 = some (leafL (leftIt l (k + 1))) ∧ S'.box b5 = some (leafL (rightEnd l)) ∧ S'.box b6 = some (markL sep) ∧ S'.box b11 = some (slotL (l.rank (n - 1 - k)))) ⟨hle.setBox s4 _, (box_set_ne _ _ n3_4).trans k3, (box_set _ _ _).trans (congrArg some (stLeaf _ _)), (box_set_ne _ _ m5_4).trans k5, (box_set_ne _ _ m6_4).trans k6, (box_set_ne _ _ m11_4).trans k11⟩ ?_
    clear hle k3 k4 k5 k6 k11
    rintro Ss ⟨hle, k3, k4, k5, k6, k11⟩
    repeat (first | refine LOps.nil ?_ | refine andThen_normal ?_ | refine andThen_exit ?_ | refine andThen_ret ?_ | refine inBlock_normal ?_ | refine inBlock_ret ?_ | refine inBlock_here ?_ | refine inBlock_out rfl ?_ | refine LWp.seq ?_ | refine LWp.region ?_ | refine LWp.block ?_ | refine LWp.exit ?_ | refine LWp.ret ?_ | refine LWp.skip ?_ | refine LOps.valA ?_ | refine LOps.outA ?_ | refine LOps.whenA ?_ | refine LOps.pickA ?_)
    refine LOps.storeA (b := b6) (off := 0) (cs := markL sep) (l := markL (l.rank (n - 1 - k)).m) ?_
    refine LOps.gen (fun S' => S.le S' ∧ S'.box b3 = some ([iv x, u64 y]) ∧ S'.box b4 = some (leafL (leftIt l (k + 1))) ∧ S'.box b5 = some (leafL (rightEnd l)) ∧ S'.box b6 = some (markL (l.rank (n - 1 - k)).m) ∧ S'.box b11 = some (slotL (l.rank (n - 1 - k)))) ⟨hle.setBox s6 _, (box_set_ne _ _ n3_6).trans k3, (box_set_ne _ _ n4_6).trans k4, (box_set_ne _ _ n5_6).trans k5, (box_set _ _ _).trans (congrArg some (rfl)), (box_set_ne _ _ m11_6).trans k11⟩ ?_
    clear hle k3 k4 k5 k6 k11
    rintro Ss ⟨hle, k3, k4, k5, k6, k11⟩
    repeat (first | refine LOps.nil ?_ | refine andThen_normal ?_ | refine andThen_exit ?_ | refine andThen_ret ?_ | refine inBlock_normal ?_ | refine inBlock_ret ?_ | refine inBlock_here ?_ | refine inBlock_out rfl ?_ | refine LWp.seq ?_ | refine LWp.region ?_ | refine LWp.block ?_ | refine LWp.exit ?_ | refine LWp.ret ?_ | refine LWp.skip ?_ | refine LOps.valA ?_ | refine LOps.outA ?_ | refine LOps.whenA ?_ | refine LOps.pickA ?_ | refine LOps.storeA ?_)
    exact ⟨n - n / 2 - (k + 1), by omega, _, k + 1, _, by omega, rfl, fun _ => by rw [show n - 1 - k = n - (k + 1) by omega], hle, k3, k4, k5, k6, holds.over ⟨rfl, rfl, rfl, rfl, rfl, trivial⟩⟩
  have hge : k = n - n / 2 := by
    have h : decide (((n - k : Nat) : Int) > (n : Int) / 2) = false := h
    rw [decide_eq_false_iff_not] at h; omega
  clear h
  have hsep := hsep (by omega)
  rw [show n - k = n / 2 by omega] at hsep
  subst hsep
  subst hge
  repeat (first | refine LOps.nil ?_ | refine andThen_normal ?_ | refine andThen_exit ?_ | refine andThen_ret ?_ | refine inBlock_normal ?_ | refine inBlock_ret ?_ | refine inBlock_here ?_ | refine inBlock_out rfl ?_ | refine LWp.seq ?_ | refine LWp.region ?_ | refine LWp.block ?_ | refine LWp.exit ?_ | refine LWp.ret ?_ | refine LWp.skip ?_ | refine LOps.valA ?_ | refine LOps.outA ?_ | refine LOps.whenA ?_ | refine LOps.pickA ?_ | refine LOps.storeA ?_)
  refine LWp.drawX (fun b => b = b4) [0, 1, 2, 3, 4, 5, 6, 7] (by rw [hP]; rfl) rfl ?_
  repeat (first | refine LRl.nil ?_ | refine LRl.valA ?_ | refine LRl.outA ?_ | refine LRl.whenA ?_ | refine LRl.pickA ?_)
  refine LRl.actA0 (LDo.store hD rfl rfl (k4) rfl rfl rfl rfl).toAct rfl rfl rfl (by
    rintro _ _ ⟨rfl, rfl⟩ q hq
    rcases (by omega : q = 0 ∨ q = 1 ∨ q = 2) with h | h | h <;> subst h <;> first | exact .inr rfl | exact .inl (LS.leX.setBox (by omega) _)) ?_
  rintro _ _ ⟨rfl, rfl⟩
  repeat (first | refine LRl.nil ?_ | refine LRl.valA ?_ | refine LRl.outA ?_ | refine LRl.whenA ?_ | refine LRl.pickA ?_)
  refine LRl.actA0 (LDo.store hD rfl rfl ((box_set _ _ _).trans (congrArg some (stHigh _ _))) rfl rfl rfl rfl).toAct rfl rfl rfl (by
    rintro _ _ ⟨rfl, rfl⟩ q hq
    rcases (by omega : q = 0 ∨ q = 1 ∨ q = 2 ∨ q = 3 ∨ q = 4) with h | h | h | h | h <;> subst h <;> first | exact .inr rfl | exact .inl (LS.leX.setBox (by omega) _)) ?_
  rintro _ _ ⟨rfl, rfl⟩
  repeat (first | refine LRl.nil ?_ | refine LRl.valA ?_ | refine LRl.outA ?_ | refine LRl.whenA ?_ | refine LRl.pickA ?_)
  refine LRl.actA0 (LDo.store hD rfl rfl ((box_set _ _ _).trans (congrArg some (stBounded _ _))) rfl rfl rfl rfl).toAct rfl rfl rfl (by
    rintro _ _ ⟨rfl, rfl⟩ q hq
    rcases (by omega : q = 0 ∨ q = 1 ∨ q = 2 ∨ q = 3 ∨ q = 4 ∨ q = 5 ∨ q = 6) with h | h | h | h | h | h | h <;> subst h <;> first | exact .inr rfl | exact .inl (LS.leX.setBox (by omega) _)) ?_
  rintro _ _ ⟨rfl, rfl⟩
  repeat (first | refine LRl.nil ?_ | refine LRl.valA ?_ | refine LRl.outA ?_ | refine LRl.whenA ?_ | refine LRl.pickA ?_)
  refine LWp.gen (fun S' => S.le S' ∧ S'.box b4 = some (leafL (leftEnd l x y)) ∧ S'.box b5 = some (leafL (rightEnd l)) ∧ S'.box b6 = some (markL (l.rank (n / 2)).m)) ⟨((hle.setBox s4 _).setBox s4 _).setBox s4 _, (box_set _ _ _).trans (congrArg some ((stNext _ _ _).trans (by rw [hnn]; rfl))), (box_set_ne _ _ m5_4).trans ((box_set_ne _ _ m5_4).trans ((box_set_ne _ _ m5_4).trans k5)), (box_set_ne _ _ m6_4).trans ((box_set_ne _ _ m6_4).trans ((box_set_ne _ _ m6_4).trans k6))⟩ ?_
  clear hle k3 k4 k5 k6
  rintro S12 ⟨hle, k4, k5, k6⟩
  refine LWp.seq ?_
  refine LWp.drawF (fun q b => (q = 1 ∧ b = b4) ∨ (q = 2 ∧ (b = b4 ∨ b = b5))) [0, 1, 2, 3, 4, 5] (by rw [hP]; rfl) rfl ?_
  repeat (first | refine LRl.valH (LVal.load hD rfl rfl k4 rfl (rdLeaf _)) ?_ (fun _ hS => LVal.load hD rfl rfl (hS.box _ _ k4 (by first | exact id | (intro hx; rcases hx with hx | hx <;> omega) | (intro hx; have hx2 : _ = _ := hx; omega) | (intro hx; exact absurd hx.1 (by decide)))) rfl (rdLeaf _)) | refine LRl.valH (LVal.load hD rfl rfl k5 rfl (rdLeaf _)) ?_ (fun _ hS => LVal.load hD rfl rfl (hS.box _ _ k5 (by first | exact id | (intro hx; rcases hx with hx | hx <;> omega) | (intro hx; have hx2 : _ = _ := hx; omega) | (intro hx; exact absurd hx.1 (by decide)))) rfl (rdLeaf _)) | refine LRl.nil ?_ | refine LRl.valA ?_ | refine LRl.outA ?_ | refine LRl.whenA ?_ | refine LRl.pickA ?_)
  refine LRl.actA0 (LDo.store hD rfl rfl (k4) rfl rfl rfl rfl).toAct rfl rfl rfl (by
    rintro _ _ ⟨rfl, rfl⟩ q hq
    rcases (by omega : q = 0 ∨ q = 1 ∨ q = 2) with h | h | h <;> subst h <;> first | exact .inr rfl | exact .inl (LS.leX.setBox (by omega) _)) ?_
  rintro _ _ ⟨rfl, rfl⟩
  refine LRl.actA0 (LDo.store hD rfl rfl ((box_set_ne _ _ m5_4).trans k5) rfl rfl rfl rfl).toAct rfl rfl rfl (by
    rintro _ _ ⟨rfl, rfl⟩ q hq
    rcases (by omega : q = 0 ∨ q = 1 ∨ q = 2 ∨ q = 3) with h | h | h | h <;> subst h <;> first | exact .inr rfl | exact .inl (LS.leX.setBox (by omega) _)) ?_
  rintro _ _ ⟨rfl, rfl⟩
  refine LRl.actA0 (LDo.store hD rfl rfl ((box_set_ne _ _ m6_5).trans ((box_set_ne _ _ m6_4).trans k6)) rfl rfl rfl rfl).toAct rfl rfl rfl (by
    rintro _ _ ⟨rfl, rfl⟩ q hq
    rcases (by omega : q = 0 ∨ q = 1 ∨ q = 2 ∨ q = 3 ∨ q = 4) with h | h | h | h | h <;> subst h <;> first | exact .inr rfl | exact .inl (LS.leX.setBox (by omega) _)) ?_
  rintro _ _ ⟨rfl, rfl⟩
  repeat (first | refine LRl.nil ?_ | refine LRl.valA ?_ | refine LRl.outA ?_ | refine LRl.whenA ?_ | refine LRl.pickA ?_)
  repeat (first | refine LOps.nil ?_ | refine andThen_normal ?_ | refine andThen_exit ?_ | refine andThen_ret ?_ | refine inBlock_normal ?_ | refine inBlock_ret ?_ | refine inBlock_here ?_ | refine inBlock_out rfl ?_ | refine LWp.seq ?_ | refine LWp.region ?_ | refine LWp.block ?_ | refine LWp.exit ?_ | refine LWp.ret ?_ | refine LWp.skip ?_ | refine LOps.valA ?_ | refine LOps.outA ?_ | refine LOps.whenA ?_ | refine LOps.pickA ?_ | refine LOps.storeA ?_)
  rw [← hnn]
  exact ⟨_, splitRes rfl (hP ▸ tok31) rfl rfl (hP ▸ tok24) rfl rfl rfl ((box_set_ne _ _ n4_6).trans ((box_set_ne _ _ n4_5).trans ((box_set _ _ _).trans (congrArg some (stLeaf _ _))))) rfl ((box_set_ne _ _ n5_6).trans ((box_set _ _ _).trans (congrArg some (stLeaf _ _)))) rfl (box_set _ _ _), rfl, ((hle.setBox s4 _).setBox s5 _).setBox s6 _⟩
end Go.Proofs.Ytgkjhlmfgaaddaa.LF
