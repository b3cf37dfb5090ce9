/- The walk of the law 'MleafOnce'. (Printed by gen_once.py.) -/
import Derived.Test.YtgkjhlmfgaaddaaLMv
set_option linter.unusedVariables false
set_option linter.unusedSimpArgs false
namespace Go.Proofs.Ytgkjhlmfgaaddaa.LF
open Go.RowKit
set_option linter.unusedVariables false

set_option maxHeartbeats 32000000 in
set_option maxRecDepth 20000 in
theorem once_L {G : Ctx} (hP : G.P = Try.prog) (l : LeafV) (hl : l.ok) (s : SlotV) (hs : s.m.ok) (S : LS) : LCalls G 7 [.agg (leafL l), .agg (slotL s)] (fun r _ => r = .one (bv true)) S := by
  have hD : TabOK G.P D := by rw [hP]; exact hD0
  have ea : EqTy G.P D 24 := by rw [hP]; exact eqMark
  have eb : EqTy G.P D 28 := by rw [hP]; exact eqSlot
  have c1 := awake_F hP
  have c2 := right_L hP l hl
  have c3 := right_S hP s hs
  have c5 := covers_F hP l s.m
  have p1 := putLeaf_L hP l hl s hs
  refine LCalls.enter (fn := Try.f7) (by rw [hP]; exact Try.func7) rfl rfl ?_
  repeat (first | refine LOps.nil ?_ | refine andThen_normal ?_ | refine andThen_exit ?_ | refine andThen_ret ?_ | refine inBlock_normal ?_ | refine inBlock_ret ?_ | refine inBlock_here ?_ | refine inBlock_out rfl ?_ | refine LWp.seq ?_ | refine LWp.region ?_ | refine LWp.block ?_ | refine LWp.exit ?_ | refine LWp.ret ?_ | refine LWp.skip ?_ | refine LOps.valA ?_ | refine LOps.outA ?_ | refine LOps.whenA ?_ | refine LOps.pickA ?_ | refine LOps.storeA ?_)
  have hle := LS.le.refl S
  refine LOps.do (LDo.box rfl rfl) rfl rfl rfl ?_
  rintro _ _ ⟨b2, hb2, rfl, rfl⟩
  have s2 := hle.none hb2
  refine LOps.gen (fun S' => S.le S' ∧ S'.box b2 = some (leafL l)) ⟨hle.newBox hb2 _, box_new _ _ _⟩ ?_
  clear hle hb2 
  rintro S2 ⟨hle, k2⟩
  skip
  refine LOps.do (LDo.box rfl rfl) rfl rfl rfl ?_
  rintro _ _ ⟨b3, hb3, rfl, rfl⟩
  have n2_3 := fresh_ne hb3 k2
  have m3_2 := n2_3.symm
  have s3 := hle.none hb3
  refine LOps.gen (fun S' => S.le S' ∧ S'.box b2 = some (leafL l) ∧ S'.box b3 = some (slotL s)) ⟨hle.newBox hb3 _, (box_new_ne _ _ n2_3).trans k2, box_new _ _ _⟩ ?_
  clear hle hb3 k2
  rintro S3 ⟨hle, k2, k3⟩
  repeat (first | refine LWp.condF rfl ?_ | refine LOps.nil ?_ | refine andThen_normal ?_ | refine andThen_exit ?_ | refine andThen_ret ?_ | refine inBlock_normal ?_ | refine inBlock_ret ?_ | refine inBlock_here ?_ | refine inBlock_out rfl ?_ | refine LWp.seq ?_ | refine LWp.region ?_ | refine LWp.block ?_ | refine LWp.exit ?_ | refine LWp.ret ?_ | refine LWp.skip ?_ | refine LOps.val (LVal.call rfl rfl (by rw [hP]; exact Try.func11) rfl (by decide) (c1)) rfl rfl rfl ?_ | refine LOps.whenC (LVal.call rfl rfl (by rw [hP]; exact Try.func11) rfl (by decide) (c1)) ?_ | refine LOps.valA ?_ | refine LOps.outA ?_ | refine LOps.whenA ?_ | refine LOps.pickA ?_ | refine LOps.storeA ?_)
  repeat (first | refine LOps.valH (LVal.load hD rfl rfl k2 rfl (rdLeaf l)) ?_ | refine LOps.whenC (LVal.load hD rfl rfl k2 rfl (rdLeaf l)) ?_ | refine LOps.nil ?_ | refine andThen_normal ?_ | refine andThen_exit ?_ | refine andThen_ret ?_ | refine inBlock_normal ?_ | refine inBlock_ret ?_ | refine inBlock_here ?_ | refine inBlock_out rfl ?_ | refine LWp.seq ?_ | refine LWp.region ?_ | refine LWp.block ?_ | refine LWp.exit ?_ | refine LWp.ret ?_ | refine LWp.skip ?_ | refine LOps.val (LVal.call rfl rfl (by rw [hP]; exact Try.func12) rfl (by decide) (c2)) rfl rfl rfl ?_ | refine LOps.val (LVal.call rfl rfl (by rw [hP]; exact Try.func13) rfl (by decide) (c3)) rfl rfl rfl ?_ | refine LOps.val (LVal.call rfl rfl (by rw [hP]; exact Try.func14) rfl (by decide) (c5)) rfl rfl rfl ?_ | refine LOps.whenC (LVal.call rfl rfl (by rw [hP]; exact Try.func12) rfl (by decide) (c2)) ?_ | refine LOps.whenC (LVal.call rfl rfl (by rw [hP]; exact Try.func13) rfl (by decide) (c3)) ?_ | refine LOps.whenC (LVal.call rfl rfl (by rw [hP]; exact Try.func14) rfl (by decide) (c5)) ?_ | refine LOps.valA ?_ | refine LOps.outA ?_ | refine LOps.whenA ?_ | refine LOps.pickA ?_ | refine LOps.storeA ?_)
  refine LWp.cond rfl (fun h => ?_) (fun h => ?_)
  · have h : ((!rightL l || !rightS s) || !coversL l s.m) = true := h
    have e : putL l s = (l, noSlot, false) := putL_bad (fun h0 => by rw [h0.1, h0.2.1, h0.2.2] at h; cases h)
    rw [e] at p1
    clear h e c2 c3 c5
    repeat (first | refine LOps.valH (LVal.load hD rfl rfl k2 rfl (rdLeaf l)) ?_ | refine LOps.nil ?_ | refine andThen_normal ?_ | refine andThen_exit ?_ | refine andThen_ret ?_ | refine inBlock_normal ?_ | refine inBlock_ret ?_ | refine inBlock_here ?_ | refine inBlock_out rfl ?_ | refine LWp.seq ?_ | refine LWp.region ?_ | refine LWp.block ?_ | refine LWp.exit ?_ | refine LWp.ret ?_ | refine LWp.skip ?_ | refine LOps.val (LVal.call rfl rfl (by rw [hP]; exact Try.func16) rfl (by decide) (p1)) rfl rfl rfl ?_ | refine LOps.whenC (LVal.call rfl rfl (by rw [hP]; exact Try.func16) rfl (by decide) (p1)) ?_ | refine LOps.valA ?_ | refine LOps.outA ?_ | refine LOps.whenA ?_ | refine LOps.pickA ?_)
    skip
    refine LOps.do (LDo.alloc hD rfl rfl rfl) rfl rfl rfl ?_
    rintro _ _ ⟨b5, hb5, rfl, rfl⟩
    have n2_5 := fresh_ne hb5 k2
    have m5_2 := n2_5.symm
    have n3_5 := fresh_ne hb5 k3
    have m5_3 := n3_5.symm
    have s5 := hle.none hb5
    refine LOps.gen (fun S' => S.le S' ∧ S'.box b2 = some (leafL l) ∧ S'.box b3 = some (slotL s) ∧ S'.box b5 = some (leafL noLeaf)) ⟨hle.newBox hb5 _, (box_new_ne _ _ n2_5).trans k2, (box_new_ne _ _ n3_5).trans k3, (box_new _ _ _).trans (congrArg some zeroLeaf)⟩ ?_
    clear hle hb5 k2 k3
    rintro S5 ⟨hle, k2, k3, k5⟩
    skip
    refine LOps.do (LDo.alloc hD rfl rfl rfl) rfl rfl rfl ?_
    rintro _ _ ⟨b6, hb6, rfl, rfl⟩
    have n2_6 := fresh_ne hb6 k2
    have m6_2 := n2_6.symm
    have n3_6 := fresh_ne hb6 k3
    have m6_3 := n3_6.symm
    have n5_6 := fresh_ne hb6 k5
    have m6_5 := n5_6.symm
    have s6 := hle.none hb6
    refine LOps.gen (fun S' => S.le S' ∧ S'.box b2 = some (leafL l) ∧ S'.box b3 = some (slotL s) ∧ S'.box b5 = some (leafL noLeaf) ∧ S'.box b6 = some (slotL noSlot)) ⟨hle.newBox hb6 _, (box_new_ne _ _ n2_6).trans k2, (box_new_ne _ _ n3_6).trans k3, (box_new_ne _ _ n5_6).trans k5, box_new _ _ _⟩ ?_
    clear hle hb6 k2 k3 k5
    rintro S6 ⟨hle, k2, k3, k5, k6⟩
    repeat (first | refine LOps.nil ?_ | refine andThen_normal ?_ | refine andThen_exit ?_ | refine andThen_ret ?_ | refine inBlock_normal ?_ | refine inBlock_ret ?_ | refine inBlock_here ?_ | refine inBlock_out rfl ?_ | refine LWp.seq ?_ | refine LWp.region ?_ | refine LWp.block ?_ | refine LWp.exit ?_ | refine LWp.ret ?_ | refine LWp.skip ?_ | refine LOps.valA ?_ | refine LOps.outA ?_ | refine LOps.whenA ?_ | refine LOps.pickA ?_)
    refine LOps.storeA (b := b5) (off := 0) (cs := leafL noLeaf) (l := leafL l) ?_
    refine LOps.gen (fun S' => S.le S' ∧ S'.box b2 = some (leafL l) ∧ S'.box b3 = some (slotL s) ∧ S'.box b5 = some (leafL l) ∧ S'.box b6 = some (slotL noSlot)) ⟨hle.setBox s5 _, (box_set_ne _ _ n2_5).trans k2, (box_set_ne _ _ n3_5).trans k3, (box_set _ _ _).trans (congrArg some (stLeaf _ _)), (box_set_ne _ _ m6_5).trans k6⟩ ?_
    clear hle k2 k3 k5 k6
    rintro Ss ⟨hle, k2, k3, k5, k6⟩
    refine LOps.storeA (b := b6) (off := 0) (cs := slotL noSlot) (l := slotL noSlot) ?_
    refine LOps.gen (fun S' => S.le S' ∧ S'.box b2 = some (leafL l) ∧ S'.box b3 = some (slotL s) ∧ S'.box b5 = some (leafL l) ∧ S'.box b6 = some (slotL noSlot)) ⟨hle.setBox s6 _, (box_set_ne _ _ n2_6).trans k2, (box_set_ne _ _ n3_6).trans k3, (box_set_ne _ _ n5_6).trans k5, (box_set _ _ _).trans (congrArg some (rfl))⟩ ?_
    clear hle k2 k3 k5 k6
    rintro Ss ⟨hle, k2, k3, k5, k6⟩
    repeat (first | refine LOps.valH (LVal.load hD rfl rfl k2 rfl (rdLeaf l)) ?_ | refine LOps.valH (LVal.load hD rfl rfl k5 rfl (rdLeaf l)) ?_ | refine LOps.valH (LVal.eqLeaf hP rfl rfl rfl) ?_ | refine LOps.valH (LVal.to (LVal.eqAgg hD rfl rfl rfl rfl rfl eb rfl) (r' := .one (bv true)) rfl) ?_ | refine LOps.valH (LVal.to (LVal.binOp hD rfl rfl rfl rfl) (r' := .one (.v (.bool true))) (congrArg (fun b => TV.one (.v (.bool b))) (by first | exact decide_eq_true (by omega) | (rw [beq_iff_eq]; omega) | (rw [bne_iff_ne]; omega)))) ?_ | refine LOps.valH (LVal.to (LVal.binOp hD rfl rfl rfl rfl) (r' := .one (.v (.bool false))) (congrArg (fun b => TV.one (.v (.bool b))) (by first | exact decide_eq_false (by omega) | (rw [beq_eq_false_iff_ne]; omega) | (rw [bne_eq_false_iff_eq]; omega)))) ?_ | refine LOps.valW ?_ | refine LOps.nil ?_ | refine andThen_normal ?_ | refine andThen_exit ?_ | refine andThen_ret ?_ | refine inBlock_normal ?_ | refine inBlock_ret ?_ | refine inBlock_here ?_ | refine inBlock_out rfl ?_ | refine LWp.seq ?_ | refine LWp.region ?_ | refine LWp.block ?_ | refine LWp.exit ?_ | refine LWp.ret ?_ | refine LWp.skip ?_ | refine LOps.valA ?_ | refine LOps.outA ?_ | refine LOps.whenA ?_ | refine LOps.pickA ?_ | refine LOps.storeA ?_)
    exact ⟨_, LRes.one rfl, rfl⟩
  have h : ((!rightL l || !rightS s) || !coversL l s.m) = false := h
  simp only [Bool.or_eq_false_iff, Bool.not_eq_false'] at h
  obtain ⟨⟨hr, h1⟩, h3⟩ := h
  have hf := (fit_iff l).1 hr
  have hn := hf.le
  have c6 := find_L hP l hl s.m
  have c7 := len_L hP l hl.p
  clear c2 c3 c5
  by_cases hroom : (findL l s.m).2 = true ∨ l.p % 16 < 15
  rotate_left
  · have hf2 : (findL l s.m).2 = false := by
      cases e : (findL l s.m).2 with
      | false => rfl
      | true => exact absurd (.inl e) hroom
    have hn2 : ¬ l.p % 16 < 15 := fun h => hroom (.inr h)
    rw [putL_full hf2 hn2] at p1
    rw [hf2] at c6
    repeat (first | refine LOps.valH (LVal.load hD rfl rfl k2 rfl (rdLeaf l)) ?_ | refine LOps.nil ?_ | refine andThen_normal ?_ | refine andThen_exit ?_ | refine andThen_ret ?_ | refine inBlock_normal ?_ | refine inBlock_ret ?_ | refine inBlock_here ?_ | refine inBlock_out rfl ?_ | refine LWp.seq ?_ | refine LWp.region ?_ | refine LWp.block ?_ | refine LWp.exit ?_ | refine LWp.ret ?_ | refine LWp.skip ?_ | refine LOps.val (LVal.call rfl rfl (by rw [hP]; exact Try.func24) rfl (by decide) (c6)) rfl rfl rfl ?_ | refine LOps.whenC (LVal.call rfl rfl (by rw [hP]; exact Try.func24) rfl (by decide) (c6)) ?_ | refine LOps.valA ?_ | refine LOps.outA ?_ | refine LOps.whenA ?_ | refine LOps.pickA ?_ | refine LOps.storeA ?_)
    repeat (first | refine LOps.valH (LVal.load hD rfl rfl k2 rfl (rdLeaf l)) ?_ | refine LOps.nil ?_ | refine andThen_normal ?_ | refine andThen_exit ?_ | refine andThen_ret ?_ | refine inBlock_normal ?_ | refine inBlock_ret ?_ | refine inBlock_here ?_ | refine inBlock_out rfl ?_ | refine LWp.seq ?_ | refine LWp.region ?_ | refine LWp.block ?_ | refine LWp.exit ?_ | refine LWp.ret ?_ | refine LWp.skip ?_ | refine LOps.val (LVal.call rfl rfl (by rw [hP]; exact Try.func16) rfl (by decide) (p1)) rfl rfl rfl ?_ | refine LOps.whenC (LVal.call rfl rfl (by rw [hP]; exact Try.func16) rfl (by decide) (p1)) ?_ | refine LOps.valA ?_ | refine LOps.outA ?_ | refine LOps.whenA ?_ | refine LOps.pickA ?_)
    skip
    refine LOps.do (LDo.alloc hD rfl rfl rfl) rfl rfl rfl ?_
    rintro _ _ ⟨b10, hb10, rfl, rfl⟩
    have n2_10 := fresh_ne hb10 k2
    have m10_2 := n2_10.symm
    have n3_10 := fresh_ne hb10 k3
    have m10_3 := n3_10.symm
    have s10 := hle.none hb10
    refine LOps.gen (fun S' => S.le S' ∧ S'.box b2 = some (leafL l) ∧ S'.box b3 = some (slotL s) ∧ S'.box b10 = some (leafL noLeaf)) ⟨hle.newBox hb10 _, (box_new_ne _ _ n2_10).trans k2, (box_new_ne _ _ n3_10).trans k3, (box_new _ _ _).trans (congrArg some zeroLeaf)⟩ ?_
    clear hle hb10 k2 k3
    rintro S10 ⟨hle, k2, k3, k10⟩
    skip
    refine LOps.do (LDo.alloc hD rfl rfl rfl) rfl rfl rfl ?_
    rintro _ _ ⟨b11, hb11, rfl, rfl⟩
    have n2_11 := fresh_ne hb11 k2
    have m11_2 := n2_11.symm
    have n3_11 := fresh_ne hb11 k3
    have m11_3 := n3_11.symm
    have n10_11 := fresh_ne hb11 k10
    have m11_10 := n10_11.symm
    have s11 := hle.none hb11
    refine LOps.gen (fun S' => S.le S' ∧ S'.box b2 = some (leafL l) ∧ S'.box b3 = some (slotL s) ∧ S'.box b10 = some (leafL noLeaf) ∧ S'.box b11 = some (slotL noSlot)) ⟨hle.newBox hb11 _, (box_new_ne _ _ n2_11).trans k2, (box_new_ne _ _ n3_11).trans k3, (box_new_ne _ _ n10_11).trans k10, box_new _ _ _⟩ ?_
    clear hle hb11 k2 k3 k10
    rintro S11 ⟨hle, k2, k3, k10, k11⟩
    repeat (first | refine LOps.nil ?_ | refine andThen_normal ?_ | refine andThen_exit ?_ | refine andThen_ret ?_ | refine inBlock_normal ?_ | refine inBlock_ret ?_ | refine inBlock_here ?_ | refine inBlock_out rfl ?_ | refine LWp.seq ?_ | refine LWp.region ?_ | refine LWp.block ?_ | refine LWp.exit ?_ | refine LWp.ret ?_ | refine LWp.skip ?_ | refine LOps.valA ?_ | refine LOps.outA ?_ | refine LOps.whenA ?_ | refine LOps.pickA ?_)
    refine LOps.storeA (b := b10) (off := 0) (cs := leafL noLeaf) (l := leafL l) ?_
    refine LOps.gen (fun S' => S.le S' ∧ S'.box b2 = some (leafL l) ∧ S'.box b3 = some (slotL s) ∧ S'.box b10 = some (leafL l) ∧ S'.box b11 = some (slotL noSlot)) ⟨hle.setBox s10 _, (box_set_ne _ _ n2_10).trans k2, (box_set_ne _ _ n3_10).trans k3, (box_set _ _ _).trans (congrArg some (stLeaf _ _)), (box_set_ne _ _ m11_10).trans k11⟩ ?_
    clear hle k2 k3 k10 k11
    rintro Ss ⟨hle, k2, k3, k10, k11⟩
    refine LOps.storeA (b := b11) (off := 0) (cs := slotL noSlot) (l := slotL noSlot) ?_
    refine LOps.gen (fun S' => S.le S' ∧ S'.box b2 = some (leafL l) ∧ S'.box b3 = some (slotL s) ∧ S'.box b10 = some (leafL l) ∧ S'.box b11 = some (slotL noSlot)) ⟨hle.setBox s11 _, (box_set_ne _ _ n2_11).trans k2, (box_set_ne _ _ n3_11).trans k3, (box_set_ne _ _ n10_11).trans k10, (box_set _ _ _).trans (congrArg some (rfl))⟩ ?_
    clear hle k2 k3 k10 k11
    rintro Ss ⟨hle, k2, k3, k10, k11⟩
    repeat (first | refine LOps.valH (LVal.call rfl rfl (by rw [hP]; exact Try.func15) rfl (by decide) (c7)) ?_ | refine LOps.valH (LVal.load hD rfl rfl k2 rfl (rdLeaf l)) ?_ | refine LWp.condF rfl ?_ | refine LOps.valH (LVal.to (LVal.binOp hD rfl rfl rfl rfl) (r' := .one (.v (.bool true))) (congrArg (fun b => TV.one (.v (.bool b))) (by first | exact decide_eq_true (by omega) | (rw [beq_iff_eq]; omega) | (rw [bne_iff_ne]; omega)))) ?_ | refine LOps.valH (LVal.to (LVal.binOp hD rfl rfl rfl rfl) (r' := .one (.v (.bool false))) (congrArg (fun b => TV.one (.v (.bool b))) (by first | exact decide_eq_false (by omega) | (rw [beq_eq_false_iff_ne]; omega) | (rw [bne_eq_false_iff_eq]; omega)))) ?_ | refine LOps.valW ?_ | refine LOps.nil ?_ | refine andThen_normal ?_ | refine andThen_exit ?_ | refine andThen_ret ?_ | refine inBlock_normal ?_ | refine inBlock_ret ?_ | refine inBlock_here ?_ | refine inBlock_out rfl ?_ | refine LWp.seq ?_ | refine LWp.region ?_ | refine LWp.block ?_ | refine LWp.exit ?_ | refine LWp.ret ?_ | refine LWp.skip ?_ | refine LOps.val (LVal.call rfl rfl (by rw [hP]; exact Try.func15) rfl (by decide) (c7)) rfl rfl rfl ?_ | refine LOps.whenC (LVal.call rfl rfl (by rw [hP]; exact Try.func15) rfl (by decide) (c7)) ?_ | refine LOps.valA ?_ | refine LOps.outA ?_ | refine LOps.whenA ?_ | refine LOps.pickA ?_ | refine LOps.storeA ?_)
    repeat (first | refine LOps.valH (LVal.load hD rfl rfl k2 rfl (rdLeaf l)) ?_ | refine LOps.valH (LVal.load hD rfl rfl k10 rfl (rdLeaf l)) ?_ | refine LOps.valH (LVal.eqLeaf hP rfl rfl rfl) ?_ | refine LWp.condT rfl ?_ | refine LOps.nil ?_ | refine andThen_normal ?_ | refine andThen_exit ?_ | refine andThen_ret ?_ | refine inBlock_normal ?_ | refine inBlock_ret ?_ | refine inBlock_here ?_ | refine inBlock_out rfl ?_ | refine LWp.seq ?_ | refine LWp.region ?_ | refine LWp.block ?_ | refine LWp.exit ?_ | refine LWp.ret ?_ | refine LWp.skip ?_ | refine LOps.valA ?_ | refine LOps.outA ?_ | refine LOps.whenA ?_ | refine LOps.pickA ?_ | refine LOps.storeA ?_)
    exact ⟨_, LRes.one rfl, rfl⟩
  obtain ⟨P, old, O⟩ := once_of hf hl hs h1 h3 hroom
  obtain ⟨e1, oP, fP, ⟨Q, e2, e2L⟩, ⟨E, e3, e3L⟩, om, sl⟩ := O
  have p2 := putLeaf_L hP P oP s hs
  have p3 := delLeaf_L hP P oP s.m
  have c8 := right_L hP P oP
  rw [fP.right] at c8
  rw [e1] at p1
  rw [e2] at p2
  rw [e3] at p3
  have p2 : LFun G 16 [.agg (leafL P), .agg (slotL s)] (.tup [.agg (leafL P), .agg (slotL s), .one (bv true)]) := by rw [← e2L] at p2 ⊢; exact p2
  clear e1 e2 e3
  generalize (findL l s.m).2 = is at *
  generalize (findL l s.m).1 = i0 at *
  repeat (first | refine LOps.valH (LVal.load hD rfl rfl k2 rfl (rdLeaf l)) ?_ | refine LOps.nil ?_ | refine andThen_normal ?_ | refine andThen_exit ?_ | refine andThen_ret ?_ | refine inBlock_normal ?_ | refine inBlock_ret ?_ | refine inBlock_here ?_ | refine inBlock_out rfl ?_ | refine LWp.seq ?_ | refine LWp.region ?_ | refine LWp.block ?_ | refine LWp.exit ?_ | refine LWp.ret ?_ | refine LWp.skip ?_ | refine LOps.val (LVal.call rfl rfl (by rw [hP]; exact Try.func24) rfl (by decide) (c6)) rfl rfl rfl ?_ | refine LOps.whenC (LVal.call rfl rfl (by rw [hP]; exact Try.func24) rfl (by decide) (c6)) ?_ | refine LOps.valA ?_ | refine LOps.outA ?_ | refine LOps.whenA ?_ | refine LOps.pickA ?_ | refine LOps.storeA ?_)
  repeat (first | refine LOps.valH (LVal.load hD rfl rfl k2 rfl (rdLeaf l)) ?_ | refine LOps.nil ?_ | refine andThen_normal ?_ | refine andThen_exit ?_ | refine andThen_ret ?_ | refine inBlock_normal ?_ | refine inBlock_ret ?_ | refine inBlock_here ?_ | refine inBlock_out rfl ?_ | refine LWp.seq ?_ | refine LWp.region ?_ | refine LWp.block ?_ | refine LWp.exit ?_ | refine LWp.ret ?_ | refine LWp.skip ?_ | refine LOps.val (LVal.call rfl rfl (by rw [hP]; exact Try.func16) rfl (by decide) (p1)) rfl rfl rfl ?_ | refine LOps.whenC (LVal.call rfl rfl (by rw [hP]; exact Try.func16) rfl (by decide) (p1)) ?_ | refine LOps.valA ?_ | refine LOps.outA ?_ | refine LOps.whenA ?_ | refine LOps.pickA ?_)
  skip
  refine LOps.do (LDo.alloc hD rfl rfl rfl) rfl rfl rfl ?_
  rintro _ _ ⟨b10, hb10, rfl, rfl⟩
  have n2_10 := fresh_ne hb10 k2
  have m10_2 := n2_10.symm
  have n3_10 := fresh_ne hb10 k3
  have m10_3 := n3_10.symm
  have s10 := hle.none hb10
  refine LOps.gen (fun S' => S.le S' ∧ S'.box b2 = some (leafL l) ∧ S'.box b3 = some (slotL s) ∧ S'.box b10 = some (leafL noLeaf)) ⟨hle.newBox hb10 _, (box_new_ne _ _ n2_10).trans k2, (box_new_ne _ _ n3_10).trans k3, (box_new _ _ _).trans (congrArg some zeroLeaf)⟩ ?_
  clear hle hb10 k2 k3
  rintro S10 ⟨hle, k2, k3, k10⟩
  skip
  refine LOps.do (LDo.alloc hD rfl rfl rfl) rfl rfl rfl ?_
  rintro _ _ ⟨b11, hb11, rfl, rfl⟩
  have n2_11 := fresh_ne hb11 k2
  have m11_2 := n2_11.symm
  have n3_11 := fresh_ne hb11 k3
  have m11_3 := n3_11.symm
  have n10_11 := fresh_ne hb11 k10
  have m11_10 := n10_11.symm
  have s11 := hle.none hb11
  refine LOps.gen (fun S' => S.le S' ∧ S'.box b2 = some (leafL l) ∧ S'.box b3 = some (slotL s) ∧ S'.box b10 = some (leafL noLeaf) ∧ S'.box b11 = some (slotL noSlot)) ⟨hle.newBox hb11 _, (box_new_ne _ _ n2_11).trans k2, (box_new_ne _ _ n3_11).trans k3, (box_new_ne _ _ n10_11).trans k10, box_new _ _ _⟩ ?_
  clear hle hb11 k2 k3 k10
  rintro S11 ⟨hle, k2, k3, k10, k11⟩
  repeat (first | refine LOps.nil ?_ | refine andThen_normal ?_ | refine andThen_exit ?_ | refine andThen_ret ?_ | refine inBlock_normal ?_ | refine inBlock_ret ?_ | refine inBlock_here ?_ | refine inBlock_out rfl ?_ | refine LWp.seq ?_ | refine LWp.region ?_ | refine LWp.block ?_ | refine LWp.exit ?_ | refine LWp.ret ?_ | refine LWp.skip ?_ | refine LOps.valA ?_ | refine LOps.outA ?_ | refine LOps.whenA ?_ | refine LOps.pickA ?_)
  refine LOps.storeA (b := b10) (off := 0) (cs := leafL noLeaf) (l := leafL P) ?_
  refine LOps.gen (fun S' => S.le S' ∧ S'.box b2 = some (leafL l) ∧ S'.box b3 = some (slotL s) ∧ S'.box b10 = some (leafL P) ∧ S'.box b11 = some (slotL noSlot)) ⟨hle.setBox s10 _, (box_set_ne _ _ n2_10).trans k2, (box_set_ne _ _ n3_10).trans k3, (box_set _ _ _).trans (congrArg some (stLeaf _ _)), (box_set_ne _ _ m11_10).trans k11⟩ ?_
  clear hle k2 k3 k10 k11
  rintro Ss ⟨hle, k2, k3, k10, k11⟩
  refine LOps.storeA (b := b11) (off := 0) (cs := slotL noSlot) (l := slotL old) ?_
  refine LOps.gen (fun S' => S.le S' ∧ S'.box b2 = some (leafL l) ∧ S'.box b3 = some (slotL s) ∧ S'.box b10 = some (leafL P) ∧ S'.box b11 = some (slotL old)) ⟨hle.setBox s11 _, (box_set_ne _ _ n2_11).trans k2, (box_set_ne _ _ n3_11).trans k3, (box_set_ne _ _ n10_11).trans k10, (box_set _ _ _).trans (congrArg some (rfl))⟩ ?_
  clear hle k2 k3 k10 k11
  rintro Ss ⟨hle, k2, k3, k10, k11⟩
  repeat (first | refine LOps.nil ?_ | refine andThen_normal ?_ | refine andThen_exit ?_ | refine andThen_ret ?_ | refine inBlock_normal ?_ | refine inBlock_ret ?_ | refine inBlock_here ?_ | refine inBlock_out rfl ?_ | refine LWp.seq ?_ | refine LWp.region ?_ | refine LWp.block ?_ | refine LWp.exit ?_ | refine LWp.ret ?_ | refine LWp.skip ?_ | refine LOps.valA ?_ | refine LOps.outA ?_ | refine LOps.whenA ?_ | refine LOps.pickA ?_ | refine LOps.storeA ?_)
  refine LWp.cond rfl (fun h => ?_) (fun h => ?_)
  · cases h
  clear h
  repeat (first | refine LOps.valH (LVal.load hD rfl rfl k2 rfl (rdLeaf l)) ?_ | refine LOps.whenC (LVal.load hD rfl rfl k2 rfl (rdLeaf l)) ?_ | refine LOps.nil ?_ | refine andThen_normal ?_ | refine andThen_exit ?_ | refine andThen_ret ?_ | refine inBlock_normal ?_ | refine inBlock_ret ?_ | refine inBlock_here ?_ | refine inBlock_out rfl ?_ | refine LWp.seq ?_ | refine LWp.region ?_ | refine LWp.block ?_ | refine LWp.exit ?_ | refine LWp.ret ?_ | refine LWp.skip ?_ | refine LOps.val (LVal.call rfl rfl (by rw [hP]; exact Try.func15) rfl (by decide) (c7)) rfl rfl rfl ?_ | refine LOps.whenC (LVal.call rfl rfl (by rw [hP]; exact Try.func15) rfl (by decide) (c7)) ?_ | refine LOps.valA ?_ | refine LOps.outA ?_ | refine LOps.whenA ?_ | refine LOps.pickA ?_ | refine LOps.storeA ?_)
  refine LWp.cond rfl (fun h => ?_) (fun h => ?_)
  · exfalso
    have h : (!is && (((l.p % 16 : Nat) : Int) == 15)) = true := h
    rw [Bool.and_eq_true, Bool.not_eq_true', beq_iff_eq] at h
    rcases hroom with h2 | h2
    · rw [h.1] at h2; cases h2
    · omega
  clear h hroom
  repeat (first | refine LOps.valH (LVal.load hD rfl rfl k10 rfl (rdLeaf P)) ?_ | refine LOps.nil ?_ | refine andThen_normal ?_ | refine andThen_exit ?_ | refine andThen_ret ?_ | refine inBlock_normal ?_ | refine inBlock_ret ?_ | refine inBlock_here ?_ | refine inBlock_out rfl ?_ | refine LWp.seq ?_ | refine LWp.region ?_ | refine LWp.block ?_ | refine LWp.exit ?_ | refine LWp.ret ?_ | refine LWp.skip ?_ | refine LOps.val (LVal.call rfl rfl (by rw [hP]; exact Try.func16) rfl (by decide) (p2)) rfl rfl rfl ?_ | refine LOps.whenC (LVal.call rfl rfl (by rw [hP]; exact Try.func16) rfl (by decide) (p2)) ?_ | refine LOps.valA ?_ | refine LOps.outA ?_ | refine LOps.whenA ?_ | refine LOps.pickA ?_)
  skip
  refine LOps.do (LDo.alloc hD rfl rfl rfl) rfl rfl rfl ?_
  rintro _ _ ⟨b13, hb13, rfl, rfl⟩
  have n2_13 := fresh_ne hb13 k2
  have m13_2 := n2_13.symm
  have n3_13 := fresh_ne hb13 k3
  have m13_3 := n3_13.symm
  have n10_13 := fresh_ne hb13 k10
  have m13_10 := n10_13.symm
  have n11_13 := fresh_ne hb13 k11
  have m13_11 := n11_13.symm
  have s13 := hle.none hb13
  refine LOps.gen (fun S' => S.le S' ∧ S'.box b2 = some (leafL l) ∧ S'.box b3 = some (slotL s) ∧ S'.box b10 = some (leafL P) ∧ S'.box b11 = some (slotL old) ∧ S'.box b13 = some (leafL noLeaf)) ⟨hle.newBox hb13 _, (box_new_ne _ _ n2_13).trans k2, (box_new_ne _ _ n3_13).trans k3, (box_new_ne _ _ n10_13).trans k10, (box_new_ne _ _ n11_13).trans k11, (box_new _ _ _).trans (congrArg some zeroLeaf)⟩ ?_
  clear hle hb13 k2 k3 k10 k11
  rintro S13 ⟨hle, k2, k3, k10, k11, k13⟩
  skip
  refine LOps.do (LDo.alloc hD rfl rfl rfl) rfl rfl rfl ?_
  rintro _ _ ⟨b14, hb14, rfl, rfl⟩
  have n2_14 := fresh_ne hb14 k2
  have m14_2 := n2_14.symm
  have n3_14 := fresh_ne hb14 k3
  have m14_3 := n3_14.symm
  have n10_14 := fresh_ne hb14 k10
  have m14_10 := n10_14.symm
  have n11_14 := fresh_ne hb14 k11
  have m14_11 := n11_14.symm
  have n13_14 := fresh_ne hb14 k13
  have m14_13 := n13_14.symm
  have s14 := hle.none hb14
  refine LOps.gen (fun S' => S.le S' ∧ S'.box b2 = some (leafL l) ∧ S'.box b3 = some (slotL s) ∧ S'.box b10 = some (leafL P) ∧ S'.box b11 = some (slotL old) ∧ S'.box b13 = some (leafL noLeaf) ∧ S'.box b14 = some (slotL noSlot)) ⟨hle.newBox hb14 _, (box_new_ne _ _ n2_14).trans k2, (box_new_ne _ _ n3_14).trans k3, (box_new_ne _ _ n10_14).trans k10, (box_new_ne _ _ n11_14).trans k11, (box_new_ne _ _ n13_14).trans k13, box_new _ _ _⟩ ?_
  clear hle hb14 k2 k3 k10 k11 k13
  rintro S14 ⟨hle, k2, k3, k10, k11, k13, k14⟩
  repeat (first | refine LOps.nil ?_ | refine andThen_normal ?_ | refine andThen_exit ?_ | refine andThen_ret ?_ | refine inBlock_normal ?_ | refine inBlock_ret ?_ | refine inBlock_here ?_ | refine inBlock_out rfl ?_ | refine LWp.seq ?_ | refine LWp.region ?_ | refine LWp.block ?_ | refine LWp.exit ?_ | refine LWp.ret ?_ | refine LWp.skip ?_ | refine LOps.valA ?_ | refine LOps.outA ?_ | refine LOps.whenA ?_ | refine LOps.pickA ?_)
  refine LOps.storeA (b := b13) (off := 0) (cs := leafL noLeaf) (l := leafL P) ?_
  refine LOps.gen (fun S' => S.le S' ∧ S'.box b2 = some (leafL l) ∧ S'.box b3 = some (slotL s) ∧ S'.box b10 = some (leafL P) ∧ S'.box b11 = some (slotL old) ∧ S'.box b13 = some (leafL P) ∧ S'.box b14 = some (slotL noSlot)) ⟨hle.setBox s13 _, (box_set_ne _ _ n2_13).trans k2, (box_set_ne _ _ n3_13).trans k3, (box_set_ne _ _ n10_13).trans k10, (box_set_ne _ _ n11_13).trans k11, (box_set _ _ _).trans (congrArg some (stLeaf _ _)), (box_set_ne _ _ m14_13).trans k14⟩ ?_
  clear hle k2 k3 k10 k11 k13 k14
  rintro Ss ⟨hle, k2, k3, k10, k11, k13, k14⟩
  refine LOps.storeA (b := b14) (off := 0) (cs := slotL noSlot) (l := slotL s) ?_
  refine LOps.gen (fun S' => S.le S' ∧ S'.box b2 = some (leafL l) ∧ S'.box b3 = some (slotL s) ∧ S'.box b10 = some (leafL P) ∧ S'.box b11 = some (slotL old) ∧ S'.box b13 = some (leafL P) ∧ S'.box b14 = some (slotL s)) ⟨hle.setBox s14 _, (box_set_ne _ _ n2_14).trans k2, (box_set_ne _ _ n3_14).trans k3, (box_set_ne _ _ n10_14).trans k10, (box_set_ne _ _ n11_14).trans k11, (box_set_ne _ _ n13_14).trans k13, (box_set _ _ _).trans (congrArg some (rfl))⟩ ?_
  clear hle k2 k3 k10 k11 k13 k14
  rintro Ss ⟨hle, k2, k3, k10, k11, k13, k14⟩
  repeat (first | refine LOps.valH (LVal.load hD rfl rfl k10 rfl (rdLeaf P)) ?_ | refine LOps.valH (LVal.load hD rfl rfl k13 rfl (rdLeaf P)) ?_ | refine LOps.valH (LVal.neqLeaf hP rfl rfl rfl) ?_ | refine LOps.valH (LVal.to (LVal.neqAgg hD rfl rfl rfl rfl rfl eb rfl) (r' := .one (bv false)) (by exact congrArg (fun b => TV.one (bv (!b))) (slot_self _))) ?_ | refine LOps.valW ?_ | refine LOps.valH (LVal.call rfl rfl (by rw [hP]; exact Try.func12) rfl (by decide) c8) ?_ | refine LWp.condF rfl ?_ | refine LOps.nil ?_ | refine andThen_normal ?_ | refine andThen_exit ?_ | refine andThen_ret ?_ | refine inBlock_normal ?_ | refine inBlock_ret ?_ | refine inBlock_here ?_ | refine inBlock_out rfl ?_ | refine LWp.seq ?_ | refine LWp.region ?_ | refine LWp.block ?_ | refine LWp.exit ?_ | refine LWp.ret ?_ | refine LWp.skip ?_ | refine LOps.valA ?_ | refine LOps.outA ?_ | refine LOps.whenA ?_ | refine LOps.pickA ?_ | refine LOps.storeA ?_)
  repeat (first | refine LOps.valH (LVal.load hD rfl rfl k10 rfl (rdLeaf P)) ?_ | refine LOps.nil ?_ | refine andThen_normal ?_ | refine andThen_exit ?_ | refine andThen_ret ?_ | refine inBlock_normal ?_ | refine inBlock_ret ?_ | refine inBlock_here ?_ | refine inBlock_out rfl ?_ | refine LWp.seq ?_ | refine LWp.region ?_ | refine LWp.block ?_ | refine LWp.exit ?_ | refine LWp.ret ?_ | refine LWp.skip ?_ | refine LOps.val (LVal.call rfl rfl (by rw [hP]; exact Try.func37) rfl (by decide) (p3)) rfl rfl rfl ?_ | refine LOps.whenC (LVal.call rfl rfl (by rw [hP]; exact Try.func37) rfl (by decide) (p3)) ?_ | refine LOps.valA ?_ | refine LOps.outA ?_ | refine LOps.whenA ?_ | refine LOps.pickA ?_)
  skip
  refine LOps.do (LDo.alloc hD rfl rfl rfl) rfl rfl rfl ?_
  rintro _ _ ⟨b16, hb16, rfl, rfl⟩
  have n2_16 := fresh_ne hb16 k2
  have m16_2 := n2_16.symm
  have n3_16 := fresh_ne hb16 k3
  have m16_3 := n3_16.symm
  have n10_16 := fresh_ne hb16 k10
  have m16_10 := n10_16.symm
  have n11_16 := fresh_ne hb16 k11
  have m16_11 := n11_16.symm
  have n13_16 := fresh_ne hb16 k13
  have m16_13 := n13_16.symm
  have n14_16 := fresh_ne hb16 k14
  have m16_14 := n14_16.symm
  have s16 := hle.none hb16
  refine LOps.gen (fun S' => S.le S' ∧ S'.box b2 = some (leafL l) ∧ S'.box b3 = some (slotL s) ∧ S'.box b10 = some (leafL P) ∧ S'.box b11 = some (slotL old) ∧ S'.box b13 = some (leafL P) ∧ S'.box b14 = some (slotL s) ∧ S'.box b16 = some (leafL noLeaf)) ⟨hle.newBox hb16 _, (box_new_ne _ _ n2_16).trans k2, (box_new_ne _ _ n3_16).trans k3, (box_new_ne _ _ n10_16).trans k10, (box_new_ne _ _ n11_16).trans k11, (box_new_ne _ _ n13_16).trans k13, (box_new_ne _ _ n14_16).trans k14, (box_new _ _ _).trans (congrArg some zeroLeaf)⟩ ?_
  clear hle hb16 k2 k3 k10 k11 k13 k14
  rintro S16 ⟨hle, k2, k3, k10, k11, k13, k14, k16⟩
  skip
  refine LOps.do (LDo.alloc hD rfl rfl rfl) rfl rfl rfl ?_
  rintro _ _ ⟨b17, hb17, rfl, rfl⟩
  have n2_17 := fresh_ne hb17 k2
  have m17_2 := n2_17.symm
  have n3_17 := fresh_ne hb17 k3
  have m17_3 := n3_17.symm
  have n10_17 := fresh_ne hb17 k10
  have m17_10 := n10_17.symm
  have n11_17 := fresh_ne hb17 k11
  have m17_11 := n11_17.symm
  have n13_17 := fresh_ne hb17 k13
  have m17_13 := n13_17.symm
  have n14_17 := fresh_ne hb17 k14
  have m17_14 := n14_17.symm
  have n16_17 := fresh_ne hb17 k16
  have m17_16 := n16_17.symm
  have s17 := hle.none hb17
  refine LOps.gen (fun S' => S.le S' ∧ S'.box b2 = some (leafL l) ∧ S'.box b3 = some (slotL s) ∧ S'.box b10 = some (leafL P) ∧ S'.box b11 = some (slotL old) ∧ S'.box b13 = some (leafL P) ∧ S'.box b14 = some (slotL s) ∧ S'.box b16 = some (leafL noLeaf) ∧ S'.box b17 = some (slotL noSlot)) ⟨hle.newBox hb17 _, (box_new_ne _ _ n2_17).trans k2, (box_new_ne _ _ n3_17).trans k3, (box_new_ne _ _ n10_17).trans k10, (box_new_ne _ _ n11_17).trans k11, (box_new_ne _ _ n13_17).trans k13, (box_new_ne _ _ n14_17).trans k14, (box_new_ne _ _ n16_17).trans k16, box_new _ _ _⟩ ?_
  clear hle hb17 k2 k3 k10 k11 k13 k14 k16
  rintro S17 ⟨hle, k2, k3, k10, k11, k13, k14, k16, k17⟩
  repeat (first | refine LOps.nil ?_ | refine andThen_normal ?_ | refine andThen_exit ?_ | refine andThen_ret ?_ | refine inBlock_normal ?_ | refine inBlock_ret ?_ | refine inBlock_here ?_ | refine inBlock_out rfl ?_ | refine LWp.seq ?_ | refine LWp.region ?_ | refine LWp.block ?_ | refine LWp.exit ?_ | refine LWp.ret ?_ | refine LWp.skip ?_ | refine LOps.valA ?_ | refine LOps.outA ?_ | refine LOps.whenA ?_ | refine LOps.pickA ?_)
  refine LOps.storeA (b := b16) (off := 0) (cs := leafL noLeaf) (l := leafL E) ?_
  refine LOps.gen (fun S' => S.le S' ∧ S'.box b2 = some (leafL l) ∧ S'.box b3 = some (slotL s) ∧ S'.box b10 = some (leafL P) ∧ S'.box b11 = some (slotL old) ∧ S'.box b13 = some (leafL P) ∧ S'.box b14 = some (slotL s) ∧ S'.box b16 = some (leafL E) ∧ S'.box b17 = some (slotL noSlot)) ⟨hle.setBox s16 _, (box_set_ne _ _ n2_16).trans k2, (box_set_ne _ _ n3_16).trans k3, (box_set_ne _ _ n10_16).trans k10, (box_set_ne _ _ n11_16).trans k11, (box_set_ne _ _ n13_16).trans k13, (box_set_ne _ _ n14_16).trans k14, (box_set _ _ _).trans (congrArg some (stLeaf _ _)), (box_set_ne _ _ m17_16).trans k17⟩ ?_
  clear hle k2 k3 k10 k11 k13 k14 k16 k17
  rintro Ss ⟨hle, k2, k3, k10, k11, k13, k14, k16, k17⟩
  refine LOps.storeA (b := b17) (off := 0) (cs := slotL noSlot) (l := slotL s) ?_
  refine LOps.gen (fun S' => S.le S' ∧ S'.box b2 = some (leafL l) ∧ S'.box b3 = some (slotL s) ∧ S'.box b10 = some (leafL P) ∧ S'.box b11 = some (slotL old) ∧ S'.box b13 = some (leafL P) ∧ S'.box b14 = some (slotL s) ∧ S'.box b16 = some (leafL E) ∧ S'.box b17 = some (slotL s)) ⟨hle.setBox s17 _, (box_set_ne _ _ n2_17).trans k2, (box_set_ne _ _ n3_17).trans k3, (box_set_ne _ _ n10_17).trans k10, (box_set_ne _ _ n11_17).trans k11, (box_set_ne _ _ n13_17).trans k13, (box_set_ne _ _ n14_17).trans k14, (box_set_ne _ _ n16_17).trans k16, (box_set _ _ _).trans (congrArg some (rfl))⟩ ?_
  clear hle k2 k3 k10 k11 k13 k14 k16 k17
  rintro Ss ⟨hle, k2, k3, k10, k11, k13, k14, k16, k17⟩
  repeat (first | refine LOps.whenC (LVal.load hD rfl rfl k2 rfl (rdLeaf l)) ?_ | refine LOps.whenC (LVal.load hD rfl rfl k16 rfl (rdLeaf E)) ?_ | refine LOps.whenC (LVal.neqLeafG hP rfl rfl rfl) ?_ | refine LOps.valH (LVal.to (LVal.neqAgg hD rfl rfl rfl rfl rfl eb rfl) (r' := .one (bv false)) (by exact congrArg (fun b => TV.one (bv (!b))) (slot_self _))) ?_ | refine LOps.valW ?_ | refine LOps.nil ?_ | refine andThen_normal ?_ | refine andThen_exit ?_ | refine andThen_ret ?_ | refine inBlock_normal ?_ | refine inBlock_ret ?_ | refine inBlock_here ?_ | refine inBlock_out rfl ?_ | refine LWp.seq ?_ | refine LWp.region ?_ | refine LWp.block ?_ | refine LWp.exit ?_ | refine LWp.ret ?_ | refine LWp.skip ?_ | refine LOps.valA ?_ | refine LOps.outA ?_ | refine LOps.whenA ?_ | refine LOps.pickA ?_ | refine LOps.storeA ?_)
  refine LWp.cond rfl (fun h => ?_) (fun h => ?_)
  · exfalso
    have h : ((!is && !sameL E l) || (is && !((old.m.s == s.m.s) && ((old.m.c == s.m.c) && true)))) = true := h
    cases is with
    | false => rw [sameL_of (e3L rfl)] at h; cases h
    | true => rw [mark_eq (om rfl)] at h; cases h
  clear h
  repeat (first | refine LOps.nil ?_ | refine andThen_normal ?_ | refine andThen_exit ?_ | refine andThen_ret ?_ | refine inBlock_normal ?_ | refine inBlock_ret ?_ | refine inBlock_here ?_ | refine inBlock_out rfl ?_ | refine LWp.seq ?_ | refine LWp.region ?_ | refine LWp.block ?_ | refine LWp.exit ?_ | refine LWp.ret ?_ | refine LWp.skip ?_ | refine LOps.valA ?_ | refine LOps.outA ?_ | refine LOps.whenA ?_ | refine LOps.pickA ?_ | refine LOps.storeA ?_)
  refine LWp.loop (fun m T S' => ∃ (T' : Nat → TV) (j : Nat), j ≤ 15 ∧ m = 15 - j ∧ S.le S' ∧ S'.box b2 = some (leafL l) ∧ S'.box b3 = some (slotL s) ∧ S'.box b10 = some (leafL P) ∧ T = over T' [(2, ptr b2), (3, ptr b3), (10, ptr b10), (19, .one (iv (j : Nat)))]) 15 ?_ ?_
  · exact ⟨_, 0, by omega, rfl, hle, k2, k3, k10, holds.over ⟨rfl, rfl, rfl, rfl, trivial⟩⟩
  clear hle k2 k3 k10 k11 k13 k14 k16 k17
  rintro m T S4 ⟨T', j, hj, rfl, hle, k2, k3, k10, rfl⟩
  repeat (first | refine LOps.nil ?_ | refine andThen_normal ?_ | refine andThen_exit ?_ | refine andThen_ret ?_ | refine inBlock_normal ?_ | refine inBlock_ret ?_ | refine inBlock_here ?_ | refine inBlock_out rfl ?_ | refine LWp.seq ?_ | refine LWp.region ?_ | refine LWp.block ?_ | refine LWp.exit ?_ | refine LWp.ret ?_ | refine LWp.skip ?_ | refine LOps.valA ?_ | refine LOps.outA ?_ | refine LOps.whenA ?_ | refine LOps.pickA ?_ | refine LOps.storeA ?_)
  refine LWp.cond rfl (fun h => ?_) (fun h => ?_)
  · have hlt : j < 15 := by
      have h : decide ((j : Int) < 15) = true := h
      rw [decide_eq_true_iff] at h; omega
    clear h
    have sl := sl j hlt
    by_cases q1 : (l.slot j).m = s.m
    · repeat (first | refine LOps.nil ?_ | refine andThen_normal ?_ | refine andThen_exit ?_ | refine andThen_ret ?_ | refine inBlock_normal ?_ | refine inBlock_ret ?_ | refine inBlock_here ?_ | refine inBlock_out rfl ?_ | refine LWp.seq ?_ | refine LWp.region ?_ | refine LWp.block ?_ | refine LWp.exit ?_ | refine LWp.ret ?_ | refine LWp.skip ?_ | refine LOps.valA ?_ | refine LOps.outA ?_ | refine LOps.whenA ?_ | refine LOps.pickA ?_ | refine LOps.storeA ?_)
      refine LWp.drawL [0, 1, 2, 3, 4, 5, 6, 7, 8, 9, 10, 11, 12, 13, 14, 15, 16, 17, 18, 19, 20, 21, 22, 23, 24, 25, 26] (by rw [hP]; rfl) rfl ?_
      repeat (first | refine LRl.valH (LVal.indexP hD rfl rfl rfl rfl rfl rfl hlt) ?_ (fun _ hS => LVal.indexP hD rfl rfl rfl rfl rfl rfl hlt) | refine LRl.valH (LVal.load hD rfl rfl k2 rfl (rdMark l hlt)) ?_ (fun _ hS => LVal.load hD rfl rfl (hS.box _ _ k2 (by first | exact id | (intro hx; rcases hx with hx | hx <;> omega) | (intro hx; have hx2 : _ = _ := hx; omega))) rfl (rdMark l hlt)) | refine LRl.valH (LVal.to (LVal.neqAgg hD rfl rfl rfl rfl rfl ea rfl) (r' := .one (bv false)) (by exact congrArg (fun b => TV.one (bv (!b))) (mark_eq q1))) ?_ (fun _ hS => LVal.to (LVal.neqAgg hD rfl rfl rfl rfl rfl ea rfl) (r' := .one (bv false)) (by exact congrArg (fun b => TV.one (bv (!b))) (mark_eq q1))) | refine LRl.valW ?_ | refine LRl.nil ?_ | refine LRl.valA ?_ | refine LRl.outA ?_ | refine LRl.whenA ?_ | refine LRl.pickA ?_)
      repeat (first | refine LWp.condF rfl ?_ | refine LOps.nil ?_ | refine andThen_normal ?_ | refine andThen_exit ?_ | refine andThen_ret ?_ | refine inBlock_normal ?_ | refine inBlock_ret ?_ | refine inBlock_here ?_ | refine inBlock_out rfl ?_ | refine LWp.seq ?_ | refine LWp.region ?_ | refine LWp.block ?_ | refine LWp.exit ?_ | refine LWp.ret ?_ | refine LWp.skip ?_ | refine LOps.valA ?_ | refine LOps.outA ?_ | refine LOps.whenA ?_ | refine LOps.pickA ?_ | refine LOps.storeA ?_)
      exact ⟨15 - (j + 1), by omega, _, j + 1, by omega, rfl, hle, k2, k3, k10, holds.over ⟨rfl, rfl, rfl, rfl, trivial⟩⟩
    by_cases q2 : l.slot j = noSlot
    · repeat (first | refine LOps.nil ?_ | refine andThen_normal ?_ | refine andThen_exit ?_ | refine andThen_ret ?_ | refine inBlock_normal ?_ | refine inBlock_ret ?_ | refine inBlock_here ?_ | refine inBlock_out rfl ?_ | refine LWp.seq ?_ | refine LWp.region ?_ | refine LWp.block ?_ | refine LWp.exit ?_ | refine LWp.ret ?_ | refine LWp.skip ?_ | refine LOps.valA ?_ | refine LOps.outA ?_ | refine LOps.whenA ?_ | refine LOps.pickA ?_ | refine LOps.storeA ?_)
      refine LWp.drawL [0, 1, 2, 3, 4, 5, 6, 7, 8, 9, 10, 11, 12, 13, 14, 15, 16, 17, 18, 19, 20, 21, 22, 23, 24, 25, 26] (by rw [hP]; rfl) rfl ?_
      repeat (first | refine LRl.valH (LVal.indexP hD rfl rfl rfl rfl rfl rfl hlt) ?_ (fun _ hS => LVal.indexP hD rfl rfl rfl rfl rfl rfl hlt) | refine LRl.valH (LVal.load hD rfl rfl k2 rfl (rdMark l hlt)) ?_ (fun _ hS => LVal.load hD rfl rfl (hS.box _ _ k2 (by first | exact id | (intro hx; rcases hx with hx | hx <;> omega) | (intro hx; have hx2 : _ = _ := hx; omega))) rfl (rdMark l hlt)) | refine LRl.valH (LVal.load hD rfl rfl k2 rfl (rdSlot l hlt)) ?_ (fun _ hS => LVal.load hD rfl rfl (hS.box _ _ k2 (by first | exact id | (intro hx; rcases hx with hx | hx <;> omega) | (intro hx; have hx2 : _ = _ := hx; omega))) rfl (rdSlot l hlt)) | refine LRl.valH (LVal.load hD rfl rfl k10 rfl (rdSlot P hlt)) ?_ (fun _ hS => LVal.load hD rfl rfl (hS.box _ _ k10 (by first | exact id | (intro hx; rcases hx with hx | hx <;> omega) | (intro hx; have hx2 : _ = _ := hx; omega))) rfl (rdSlot P hlt)) | refine LRl.valH (LVal.to (LVal.neqAgg hD rfl rfl rfl rfl rfl ea rfl) (r' := .one (bv true)) (by exact congrArg (fun b => TV.one (bv (!b))) (mark_ne q1))) ?_ (fun _ hS => LVal.to (LVal.neqAgg hD rfl rfl rfl rfl rfl ea rfl) (r' := .one (bv true)) (by exact congrArg (fun b => TV.one (bv (!b))) (mark_ne q1))) | refine LRl.valH (LVal.to (LVal.neqAgg hD rfl rfl rfl rfl rfl eb rfl) (r' := .one (bv false)) (by exact congrArg (fun b => TV.one (bv (!b))) (slot_eq q2))) ?_ (fun _ hS => LVal.to (LVal.neqAgg hD rfl rfl rfl rfl rfl eb rfl) (r' := .one (bv false)) (by exact congrArg (fun b => TV.one (bv (!b))) (slot_eq q2))) | refine LRl.valW ?_ | refine LRl.nil ?_ | refine LRl.valA ?_ | refine LRl.outA ?_ | refine LRl.whenA ?_ | refine LRl.pickA ?_)
      repeat (first | refine LWp.condF rfl ?_ | refine LOps.nil ?_ | refine andThen_normal ?_ | refine andThen_exit ?_ | refine andThen_ret ?_ | refine inBlock_normal ?_ | refine inBlock_ret ?_ | refine inBlock_here ?_ | refine inBlock_out rfl ?_ | refine LWp.seq ?_ | refine LWp.region ?_ | refine LWp.block ?_ | refine LWp.exit ?_ | refine LWp.ret ?_ | refine LWp.skip ?_ | refine LOps.valA ?_ | refine LOps.outA ?_ | refine LOps.whenA ?_ | refine LOps.pickA ?_ | refine LOps.storeA ?_)
      exact ⟨15 - (j + 1), by omega, _, j + 1, by omega, rfl, hle, k2, k3, k10, holds.over ⟨rfl, rfl, rfl, rfl, trivial⟩⟩
    have q3 := sl q1 q2
    repeat (first | refine LOps.nil ?_ | refine andThen_normal ?_ | refine andThen_exit ?_ | refine andThen_ret ?_ | refine inBlock_normal ?_ | refine inBlock_ret ?_ | refine inBlock_here ?_ | refine inBlock_out rfl ?_ | refine LWp.seq ?_ | refine LWp.region ?_ | refine LWp.block ?_ | refine LWp.exit ?_ | refine LWp.ret ?_ | refine LWp.skip ?_ | refine LOps.valA ?_ | refine LOps.outA ?_ | refine LOps.whenA ?_ | refine LOps.pickA ?_ | refine LOps.storeA ?_)
    refine LWp.drawL [0, 1, 2, 3, 4, 5, 6, 7, 8, 9, 10, 11, 12, 13, 14, 15, 16, 17, 18, 19, 20, 21, 22, 23, 24, 25, 26] (by rw [hP]; rfl) rfl ?_
    repeat (first | refine LRl.valH (LVal.indexP hD rfl rfl rfl rfl rfl rfl hlt) ?_ (fun _ hS => LVal.indexP hD rfl rfl rfl rfl rfl rfl hlt) | refine LRl.valH (LVal.load hD rfl rfl k2 rfl (rdMark l hlt)) ?_ (fun _ hS => LVal.load hD rfl rfl (hS.box _ _ k2 (by first | exact id | (intro hx; rcases hx with hx | hx <;> omega) | (intro hx; have hx2 : _ = _ := hx; omega))) rfl (rdMark l hlt)) | refine LRl.valH (LVal.load hD rfl rfl k2 rfl (rdSlot l hlt)) ?_ (fun _ hS => LVal.load hD rfl rfl (hS.box _ _ k2 (by first | exact id | (intro hx; rcases hx with hx | hx <;> omega) | (intro hx; have hx2 : _ = _ := hx; omega))) rfl (rdSlot l hlt)) | refine LRl.valH (LVal.load hD rfl rfl k10 rfl (rdSlot P hlt)) ?_ (fun _ hS => LVal.load hD rfl rfl (hS.box _ _ k10 (by first | exact id | (intro hx; rcases hx with hx | hx <;> omega) | (intro hx; have hx2 : _ = _ := hx; omega))) rfl (rdSlot P hlt)) | refine LRl.valH (LVal.to (LVal.neqAgg hD rfl rfl rfl rfl rfl ea rfl) (r' := .one (bv true)) (by exact congrArg (fun b => TV.one (bv (!b))) (mark_ne q1))) ?_ (fun _ hS => LVal.to (LVal.neqAgg hD rfl rfl rfl rfl rfl ea rfl) (r' := .one (bv true)) (by exact congrArg (fun b => TV.one (bv (!b))) (mark_ne q1))) | refine LRl.valH (LVal.to (LVal.neqAgg hD rfl rfl rfl rfl rfl eb rfl) (r' := .one (bv true)) (by exact congrArg (fun b => TV.one (bv (!b))) (slot_ne q2))) ?_ (fun _ hS => LVal.to (LVal.neqAgg hD rfl rfl rfl rfl rfl eb rfl) (r' := .one (bv true)) (by exact congrArg (fun b => TV.one (bv (!b))) (slot_ne q2))) | refine LRl.valH (LVal.to (LVal.neqAgg hD rfl rfl rfl rfl rfl eb rfl) (r' := .one (bv false)) (by exact congrArg (fun b => TV.one (bv (!b))) (slot_eq q3))) ?_ (fun _ hS => LVal.to (LVal.neqAgg hD rfl rfl rfl rfl rfl eb rfl) (r' := .one (bv false)) (by exact congrArg (fun b => TV.one (bv (!b))) (slot_eq q3))) | refine LRl.valW ?_ | refine LRl.nil ?_ | refine LRl.valA ?_ | refine LRl.outA ?_ | refine LRl.whenA ?_ | refine LRl.pickA ?_)
    repeat (first | refine LWp.condF rfl ?_ | refine LOps.nil ?_ | refine andThen_normal ?_ | refine andThen_exit ?_ | refine andThen_ret ?_ | refine inBlock_normal ?_ | refine inBlock_ret ?_ | refine inBlock_here ?_ | refine inBlock_out rfl ?_ | refine LWp.seq ?_ | refine LWp.region ?_ | refine LWp.block ?_ | refine LWp.exit ?_ | refine LWp.ret ?_ | refine LWp.skip ?_ | refine LOps.valA ?_ | refine LOps.outA ?_ | refine LOps.whenA ?_ | refine LOps.pickA ?_ | refine LOps.storeA ?_)
    exact ⟨15 - (j + 1), by omega, _, j + 1, by omega, rfl, hle, k2, k3, k10, holds.over ⟨rfl, rfl, rfl, rfl, trivial⟩⟩
  · repeat (first | refine LOps.nil ?_ | refine andThen_normal ?_ | refine andThen_exit ?_ | refine andThen_ret ?_ | refine inBlock_normal ?_ | refine inBlock_ret ?_ | refine inBlock_here ?_ | refine inBlock_out rfl ?_ | refine LWp.seq ?_ | refine LWp.region ?_ | refine LWp.block ?_ | refine LWp.exit ?_ | refine LWp.ret ?_ | refine LWp.skip ?_ | refine LOps.valA ?_ | refine LOps.outA ?_ | refine LOps.whenA ?_ | refine LOps.pickA ?_ | refine LOps.storeA ?_)
    exact ⟨_, LRes.one rfl, rfl⟩
end Go.Proofs.Ytgkjhlmfgaaddaa.LF

namespace Go.Proofs.Ytgkjhlmfgaaddaa
open Go.RowKit LF
theorem mleafOnce_walk (W : World) (v0 : Value) (l0 : List LV) (y0 : Typed LF.D 31 l0) (g0 : RepT (G0 Try.prog W) W (allCells W) (argTV ti31 l0) v0) (v1 : Value) (l1 : List LV) (y1 : Typed LF.D 28 l1) (g1 : RepT (G0 Try.prog W) W (allCells W) (argTV ti28 l1) v1) :
    Calls Try.prog 7 #[v0, v1] W fun e W' => e = .returned (.bool true) ∧ Below W.heap.size W W' := by
  obtain ⟨l, rfl, hl⟩ := typed_leaf y0
  obtain ⟨s, rfl, hs⟩ := typed_slot y1
  exact law_calls (fun G S h => once_L h l hl s hs S) (.cons (vs := [v1]) g0 (.cons (vs := []) g1 .nil))
end Go.Proofs.Ytgkjhlmfgaaddaa
