/- The walk of the law 'MleafRows'. -/
import Derived.Test.YtgkjhlmfgaaddaaLMn
import Derived.Test.YtgkjhlmfgaaddaaLMs
set_option linter.unusedVariables false
set_option linter.unusedSimpArgs false
namespace Go.Proofs.Ytgkjhlmfgaaddaa.LF
open Go.RowKit
set_option linter.unusedVariables false

structure RowsAt (A B : LeafV) : Prop where
  fa : Fit A
  fb : Fit B
  oa : A.ok
  ob : B.ok
  n : A.p % 16 = B.p % 16
  rk : ∀ k, k < A.p % 16 → A.rank k = B.rank k

set_option maxHeartbeats 32000000 in
set_option maxRecDepth 20000 in
theorem rows_L {G : Ctx} (hP : G.P = Try.prog) (l : LeafV) (hl : l.ok) (s t : SlotV) (hs : s.m.ok) (ht : t.m.ok) (S : LS) : LCalls G 3 [.agg (leafL l), .agg (slotL s), .agg (slotL t)] (fun r _ => r = .one (bv true)) S := by
  have hD : TabOK G.P D := by rw [hP]; exact hD0
  have ea : EqTy G.P D 24 := by rw [hP]; exact eqMark
  have eb : EqTy G.P D 28 := by rw [hP]; exact eqSlot
  have c1 := awake_F hP
  have c2 := right_L hP l hl
  have c3 := right_S hP s hs
  have c4 := right_S hP t ht
  have c5 := covers_F hP l s.m
  have c6 := covers_F hP l t.m
  have c7 := len_L hP l hl.p
  refine LCalls.enter (fn := Try.f3) (by rw [hP]; exact Try.func3) rfl rfl ?_
  repeat (first | refine LOps.nil ?_ | refine andThen_normal ?_ | refine andThen_exit ?_ | refine andThen_ret ?_ | refine inBlock_normal ?_ | refine inBlock_ret ?_ | refine inBlock_here ?_ | refine inBlock_out rfl ?_ | refine LWp.seq ?_ | refine LWp.region ?_ | refine LWp.block ?_ | refine LWp.exit ?_ | refine LWp.ret ?_ | refine LWp.skip ?_ | refine LOps.valA ?_ | refine LOps.outA ?_ | refine LOps.whenA ?_ | refine LOps.pickA ?_ | refine LOps.storeA ?_)
  have hle := LS.le.refl S
  refine LOps.do (LDo.box rfl rfl) rfl rfl rfl ?_
  rintro _ _ ⟨b3, hb3, rfl, rfl⟩
  have s3 := hle.none hb3
  refine LOps.gen (fun S' => S.le S' ∧ S'.box b3 = some (leafL l)) ⟨hle.newBox hb3 _, box_new _ _ _⟩ ?_
  clear hle hb3 
  rintro S3 ⟨hle, k3⟩
  skip
  refine LOps.do (LDo.box rfl rfl) rfl rfl rfl ?_
  rintro _ _ ⟨b4, hb4, rfl, rfl⟩
  have n3_4 := fresh_ne hb4 k3
  have m4_3 := n3_4.symm
  have s4 := hle.none hb4
  refine LOps.gen (fun S' => S.le S' ∧ S'.box b3 = some (leafL l) ∧ S'.box b4 = some (slotL s)) ⟨hle.newBox hb4 _, (box_new_ne _ _ n3_4).trans k3, box_new _ _ _⟩ ?_
  clear hle hb4 k3
  rintro S4 ⟨hle, k3, k4⟩
  skip
  refine LOps.do (LDo.box rfl rfl) rfl rfl rfl ?_
  rintro _ _ ⟨b5, hb5, rfl, rfl⟩
  have n3_5 := fresh_ne hb5 k3
  have m5_3 := n3_5.symm
  have n4_5 := fresh_ne hb5 k4
  have m5_4 := n4_5.symm
  have s5 := hle.none hb5
  refine LOps.gen (fun S' => S.le S' ∧ S'.box b3 = some (leafL l) ∧ S'.box b4 = some (slotL s) ∧ S'.box b5 = some (slotL t)) ⟨hle.newBox hb5 _, (box_new_ne _ _ n3_5).trans k3, (box_new_ne _ _ n4_5).trans k4, box_new _ _ _⟩ ?_
  clear hle hb5 k3 k4
  rintro S5 ⟨hle, k3, k4, k5⟩
  repeat (first | refine LWp.condF rfl ?_ | refine LOps.nil ?_ | refine andThen_normal ?_ | refine andThen_exit ?_ | refine andThen_ret ?_ | refine inBlock_normal ?_ | refine inBlock_ret ?_ | refine inBlock_here ?_ | refine inBlock_out rfl ?_ | refine LWp.seq ?_ | refine LWp.region ?_ | refine LWp.block ?_ | refine LWp.exit ?_ | refine LWp.ret ?_ | refine LWp.skip ?_ | refine LOps.val (LVal.call rfl rfl (by rw [hP]; exact Try.func11) rfl (by decide) (c1)) rfl rfl rfl ?_ | refine LOps.whenC (LVal.call rfl rfl (by rw [hP]; exact Try.func11) rfl (by decide) (c1)) ?_ | refine LOps.valA ?_ | refine LOps.outA ?_ | refine LOps.whenA ?_ | refine LOps.pickA ?_ | refine LOps.storeA ?_)
  repeat (first | refine LOps.valH (LVal.load hD rfl rfl k3 rfl (rdLeaf l)) ?_ | refine LOps.whenC (LVal.load hD rfl rfl k3 rfl (rdLeaf l)) ?_ | refine LOps.nil ?_ | refine andThen_normal ?_ | refine andThen_exit ?_ | refine andThen_ret ?_ | refine inBlock_normal ?_ | refine inBlock_ret ?_ | refine inBlock_here ?_ | refine inBlock_out rfl ?_ | refine LWp.seq ?_ | refine LWp.region ?_ | refine LWp.block ?_ | refine LWp.exit ?_ | refine LWp.ret ?_ | refine LWp.skip ?_ | refine LOps.val (LVal.call rfl rfl (by rw [hP]; exact Try.func12) rfl (by decide) (c2)) rfl rfl rfl ?_ | refine LOps.val (LVal.call rfl rfl (by rw [hP]; exact Try.func13) rfl (by decide) (c3)) rfl rfl rfl ?_ | refine LOps.val (LVal.call rfl rfl (by rw [hP]; exact Try.func13) rfl (by decide) (c4)) rfl rfl rfl ?_ | refine LOps.val (LVal.call rfl rfl (by rw [hP]; exact Try.func14) rfl (by decide) (c5)) rfl rfl rfl ?_ | refine LOps.val (LVal.call rfl rfl (by rw [hP]; exact Try.func14) rfl (by decide) (c6)) rfl rfl rfl ?_ | refine LOps.val (LVal.call rfl rfl (by rw [hP]; exact Try.func15) rfl (by decide) (c7)) rfl rfl rfl ?_ | refine LOps.whenC (LVal.call rfl rfl (by rw [hP]; exact Try.func12) rfl (by decide) (c2)) ?_ | refine LOps.whenC (LVal.call rfl rfl (by rw [hP]; exact Try.func13) rfl (by decide) (c3)) ?_ | refine LOps.whenC (LVal.call rfl rfl (by rw [hP]; exact Try.func13) rfl (by decide) (c4)) ?_ | refine LOps.whenC (LVal.call rfl rfl (by rw [hP]; exact Try.func14) rfl (by decide) (c5)) ?_ | refine LOps.whenC (LVal.call rfl rfl (by rw [hP]; exact Try.func14) rfl (by decide) (c6)) ?_ | refine LOps.whenC (LVal.call rfl rfl (by rw [hP]; exact Try.func15) rfl (by decide) (c7)) ?_ | refine LOps.valA ?_ | refine LOps.outA ?_ | refine LOps.whenA ?_ | refine LOps.pickA ?_ | refine LOps.storeA ?_)
  refine LWp.cond rfl (fun h => ?_) (fun h => ?_)
  · repeat (first | refine LOps.nil ?_ | refine andThen_normal ?_ | refine andThen_exit ?_ | refine andThen_ret ?_ | refine inBlock_normal ?_ | refine inBlock_ret ?_ | refine inBlock_here ?_ | refine inBlock_out rfl ?_ | refine LWp.seq ?_ | refine LWp.region ?_ | refine LWp.block ?_ | refine LWp.exit ?_ | refine LWp.ret ?_ | refine LWp.skip ?_ | refine LOps.valA ?_ | refine LOps.outA ?_ | refine LOps.whenA ?_ | refine LOps.pickA ?_ | refine LOps.storeA ?_)
    exact ⟨_, LRes.one rfl, rfl⟩
  have h : ((((((!rightL l || !rightS s) || !rightS t) || !coversL l s.m) || !coversL l t.m) || ((s.m.s == t.m.s) && ((s.m.c == t.m.c) && true))) || decide (((l.p % 16 : Nat) : Int) > 13)) = false := h
  simp only [Bool.or_eq_false_iff, Bool.not_eq_false', decide_eq_false_iff_not, Bool.and_true] at h
  obtain ⟨⟨⟨⟨⟨⟨hr, h1⟩, h2⟩, h3⟩, h4⟩, h5⟩, h6⟩ := h
  have hf := (fit_iff l).1 hr
  have hne : s.m ≠ t.m := fun e => by rw [e] at h5; simp at h5
  obtain ⟨hn, hrk⟩ := put_rows hf h1 h2 h3 h4 (by omega) hne
  have oa1 := putL_ok hl hs
  have ob1 := putL_ok hl ht
  have R : RowsAt (putL (putL l s).1 t).1 (putL (putL l t).1 s).1 := ⟨putL_fit (putL_fit hf), putL_fit (putL_fit hf), putL_ok oa1 ht, putL_ok ob1 hs, hn, hrk⟩
  have p1 := putLeaf_L hP l hl s hs
  have p2 := putLeaf_L hP (putL l s).1 oa1 t ht
  have p3 := putLeaf_L hP l hl t ht
  have p4 := putLeaf_L hP (putL l t).1 ob1 s hs
  clear hn hrk c2 c3 c4 c5 c6 c7 h5 h6 h1 h2 h3 h4 hr
  generalize (putL (putL l s).1 t).1 = A at *
  generalize (putL (putL l s).1 t).2.1 = y2 at *
  generalize (putL (putL l s).1 t).2.2 = d2 at *
  generalize (putL (putL l t).1 s).1 = B at *
  generalize (putL (putL l t).1 s).2.1 = y4 at *
  generalize (putL (putL l t).1 s).2.2 = d4 at *
  generalize (putL l s).1 = A1 at *
  generalize (putL l s).2.1 = y1 at *
  generalize (putL l s).2.2 = d1 at *
  generalize (putL l t).1 = B1 at *
  generalize (putL l t).2.1 = y3 at *
  generalize (putL l t).2.2 = d3 at *
  repeat (first | refine LOps.valH (LVal.load hD rfl rfl k3 rfl (rdLeaf l)) ?_ | refine LOps.nil ?_ | refine andThen_normal ?_ | refine andThen_exit ?_ | refine andThen_ret ?_ | refine inBlock_normal ?_ | refine inBlock_ret ?_ | refine inBlock_here ?_ | refine inBlock_out rfl ?_ | refine LWp.seq ?_ | refine LWp.region ?_ | refine LWp.block ?_ | refine LWp.exit ?_ | refine LWp.ret ?_ | refine LWp.skip ?_ | refine LOps.val (LVal.call rfl rfl (by rw [hP]; exact Try.func16) rfl (by decide) (p1)) rfl rfl rfl ?_ | refine LOps.whenC (LVal.call rfl rfl (by rw [hP]; exact Try.func16) rfl (by decide) (p1)) ?_ | refine LOps.valA ?_ | refine LOps.outA ?_ | refine LOps.whenA ?_ | refine LOps.pickA ?_)
  skip
  refine LOps.do (LDo.alloc hD rfl rfl rfl) rfl rfl rfl ?_
  rintro _ _ ⟨b7, hb7, rfl, rfl⟩
  have n3_7 := fresh_ne hb7 k3
  have m7_3 := n3_7.symm
  have n4_7 := fresh_ne hb7 k4
  have m7_4 := n4_7.symm
  have n5_7 := fresh_ne hb7 k5
  have m7_5 := n5_7.symm
  have s7 := hle.none hb7
  refine LOps.gen (fun S' => S.le S' ∧ S'.box b3 = some (leafL l) ∧ S'.box b4 = some (slotL s) ∧ S'.box b5 = some (slotL t) ∧ S'.box b7 = some (leafL noLeaf)) ⟨hle.newBox hb7 _, (box_new_ne _ _ n3_7).trans k3, (box_new_ne _ _ n4_7).trans k4, (box_new_ne _ _ n5_7).trans k5, (box_new _ _ _).trans (congrArg some zeroLeaf)⟩ ?_
  clear hle hb7 k3 k4 k5
  rintro S7 ⟨hle, k3, k4, k5, k7⟩
  skip
  refine LOps.do (LDo.alloc hD rfl rfl rfl) rfl rfl rfl ?_
  rintro _ _ ⟨b8, hb8, rfl, rfl⟩
  have n3_8 := fresh_ne hb8 k3
  have m8_3 := n3_8.symm
  have n4_8 := fresh_ne hb8 k4
  have m8_4 := n4_8.symm
  have n5_8 := fresh_ne hb8 k5
  have m8_5 := n5_8.symm
  have n7_8 := fresh_ne hb8 k7
  have m8_7 := n7_8.symm
  have s8 := hle.none hb8
  refine LOps.gen (fun S' => S.le S' ∧ S'.box b3 = some (leafL l) ∧ S'.box b4 = some (slotL s) ∧ S'.box b5 = some (slotL t) ∧ S'.box b7 = some (leafL noLeaf) ∧ S'.box b8 = some (slotL noSlot)) ⟨hle.newBox hb8 _, (box_new_ne _ _ n3_8).trans k3, (box_new_ne _ _ n4_8).trans k4, (box_new_ne _ _ n5_8).trans k5, (box_new_ne _ _ n7_8).trans k7, box_new _ _ _⟩ ?_
  clear hle hb8 k3 k4 k5 k7
  rintro S8 ⟨hle, k3, k4, k5, k7, k8⟩
  repeat (first | refine LOps.nil ?_ | refine andThen_normal ?_ | refine andThen_exit ?_ | refine andThen_ret ?_ | refine inBlock_normal ?_ | refine inBlock_ret ?_ | refine inBlock_here ?_ | refine inBlock_out rfl ?_ | refine LWp.seq ?_ | refine LWp.region ?_ | refine LWp.block ?_ | refine LWp.exit ?_ | refine LWp.ret ?_ | refine LWp.skip ?_ | refine LOps.valA ?_ | refine LOps.outA ?_ | refine LOps.whenA ?_ | refine LOps.pickA ?_)
  refine LOps.storeA (b := b7) (off := 0) (cs := leafL noLeaf) (l := leafL A1) ?_
  refine LOps.gen (fun S' => S.le S' ∧ S'.box b3 = some (leafL l) ∧ S'.box b4 = some (slotL s) ∧ S'.box b5 = some (slotL t) ∧ S'.box b7 = some (leafL A1) ∧ S'.box b8 = some (slotL noSlot)) ⟨hle.setBox s7 _, (box_set_ne _ _ n3_7).trans k3, (box_set_ne _ _ n4_7).trans k4, (box_set_ne _ _ n5_7).trans k5, (box_set _ _ _).trans (congrArg some (stLeaf _ _)), (box_set_ne _ _ m8_7).trans k8⟩ ?_
  clear hle k3 k4 k5 k7 k8
  rintro Ss ⟨hle, k3, k4, k5, k7, k8⟩
  refine LOps.storeA (b := b8) (off := 0) (cs := slotL noSlot) (l := slotL y1) ?_
  refine LOps.gen (fun S' => S.le S' ∧ S'.box b3 = some (leafL l) ∧ S'.box b4 = some (slotL s) ∧ S'.box b5 = some (slotL t) ∧ S'.box b7 = some (leafL A1) ∧ S'.box b8 = some (slotL y1)) ⟨hle.setBox s8 _, (box_set_ne _ _ n3_8).trans k3, (box_set_ne _ _ n4_8).trans k4, (box_set_ne _ _ n5_8).trans k5, (box_set_ne _ _ n7_8).trans k7, (box_set _ _ _).trans (congrArg some (rfl))⟩ ?_
  clear hle k3 k4 k5 k7 k8
  rintro Ss ⟨hle, k3, k4, k5, k7, k8⟩
  refine LOps.gen (fun S' => S.le S' ∧ S'.box b3 = some (leafL l) ∧ S'.box b4 = some (slotL s) ∧ S'.box b5 = some (slotL t) ∧ S'.box b7 = some (leafL A1)) ⟨hle, k3, k4, k5, k7⟩ ?_
  clear hle k3 k4 k5 k7 k8
  rintro Sk ⟨hle, k3, k4, k5, k7⟩
  repeat (first | refine LOps.valH (LVal.load hD rfl rfl k7 rfl (rdLeaf A1)) ?_ | refine LOps.nil ?_ | refine andThen_normal ?_ | refine andThen_exit ?_ | refine andThen_ret ?_ | refine inBlock_normal ?_ | refine inBlock_ret ?_ | refine inBlock_here ?_ | refine inBlock_out rfl ?_ | refine LWp.seq ?_ | refine LWp.region ?_ | refine LWp.block ?_ | refine LWp.exit ?_ | refine LWp.ret ?_ | refine LWp.skip ?_ | refine LOps.val (LVal.call rfl rfl (by rw [hP]; exact Try.func16) rfl (by decide) (p2)) rfl rfl rfl ?_ | refine LOps.whenC (LVal.call rfl rfl (by rw [hP]; exact Try.func16) rfl (by decide) (p2)) ?_ | refine LOps.valA ?_ | refine LOps.outA ?_ | refine LOps.whenA ?_ | refine LOps.pickA ?_)
  refine LOps.storeA (b := b7) (off := 0) (cs := leafL A1) (l := leafL A) ?_
  refine LOps.gen (fun S' => S.le S' ∧ S'.box b3 = some (leafL l) ∧ S'.box b4 = some (slotL s) ∧ S'.box b5 = some (slotL t) ∧ S'.box b7 = some (leafL A)) ⟨hle.setBox s7 _, (box_set_ne _ _ n3_7).trans k3, (box_set_ne _ _ n4_7).trans k4, (box_set_ne _ _ n5_7).trans k5, (box_set _ _ _).trans (congrArg some (stLeaf _ _))⟩ ?_
  clear hle k3 k4 k5 k7
  rintro Ss ⟨hle, k3, k4, k5, k7⟩
  repeat (first | refine LOps.valH (LVal.load hD rfl rfl k3 rfl (rdLeaf l)) ?_ | refine LOps.nil ?_ | refine andThen_normal ?_ | refine andThen_exit ?_ | refine andThen_ret ?_ | refine inBlock_normal ?_ | refine inBlock_ret ?_ | refine inBlock_here ?_ | refine inBlock_out rfl ?_ | refine LWp.seq ?_ | refine LWp.region ?_ | refine LWp.block ?_ | refine LWp.exit ?_ | refine LWp.ret ?_ | refine LWp.skip ?_ | refine LOps.val (LVal.call rfl rfl (by rw [hP]; exact Try.func16) rfl (by decide) (p3)) rfl rfl rfl ?_ | refine LOps.whenC (LVal.call rfl rfl (by rw [hP]; exact Try.func16) rfl (by decide) (p3)) ?_ | refine LOps.valA ?_ | refine LOps.outA ?_ | refine LOps.whenA ?_ | refine LOps.pickA ?_)
  skip
  refine LOps.do (LDo.alloc hD rfl rfl rfl) rfl rfl rfl ?_
  rintro _ _ ⟨b10, hb10, rfl, rfl⟩
  have n3_10 := fresh_ne hb10 k3
  have m10_3 := n3_10.symm
  have n4_10 := fresh_ne hb10 k4
  have m10_4 := n4_10.symm
  have n5_10 := fresh_ne hb10 k5
  have m10_5 := n5_10.symm
  have n7_10 := fresh_ne hb10 k7
  have m10_7 := n7_10.symm
  have s10 := hle.none hb10
  refine LOps.gen (fun S' => S.le S' ∧ S'.box b3 = some (leafL l) ∧ S'.box b4 = some (slotL s) ∧ S'.box b5 = some (slotL t) ∧ S'.box b7 = some (leafL A) ∧ S'.box b10 = some (leafL noLeaf)) ⟨hle.newBox hb10 _, (box_new_ne _ _ n3_10).trans k3, (box_new_ne _ _ n4_10).trans k4, (box_new_ne _ _ n5_10).trans k5, (box_new_ne _ _ n7_10).trans k7, (box_new _ _ _).trans (congrArg some zeroLeaf)⟩ ?_
  clear hle hb10 k3 k4 k5 k7
  rintro S10 ⟨hle, k3, k4, k5, k7, k10⟩
  skip
  refine LOps.do (LDo.alloc hD rfl rfl rfl) rfl rfl rfl ?_
  rintro _ _ ⟨b11, hb11, rfl, rfl⟩
  have n3_11 := fresh_ne hb11 k3
  have m11_3 := n3_11.symm
  have n4_11 := fresh_ne hb11 k4
  have m11_4 := n4_11.symm
  have n5_11 := fresh_ne hb11 k5
  have m11_5 := n5_11.symm
  have n7_11 := fresh_ne hb11 k7
  have m11_7 := n7_11.symm
  have n10_11 := fresh_ne hb11 k10
  have m11_10 := n10_11.symm
  have s11 := hle.none hb11
  refine LOps.gen (fun S' => S.le S' ∧ S'.box b3 = some (leafL l) ∧ S'.box b4 = some (slotL s) ∧ S'.box b5 = some (slotL t) ∧ S'.box b7 = some (leafL A) ∧ S'.box b10 = some (leafL noLeaf) ∧ S'.box b11 = some (slotL noSlot)) ⟨hle.newBox hb11 _, (box_new_ne _ _ n3_11).trans k3, (box_new_ne _ _ n4_11).trans k4, (box_new_ne _ _ n5_11).trans k5, (box_new_ne _ _ n7_11).trans k7, (box_new_ne _ _ n10_11).trans k10, box_new _ _ _⟩ ?_
  clear hle hb11 k3 k4 k5 k7 k10
  rintro S11 ⟨hle, k3, k4, k5, k7, k10, k11⟩
  repeat (first | refine LOps.nil ?_ | refine andThen_normal ?_ | refine andThen_exit ?_ | refine andThen_ret ?_ | refine inBlock_normal ?_ | refine inBlock_ret ?_ | refine inBlock_here ?_ | refine inBlock_out rfl ?_ | refine LWp.seq ?_ | refine LWp.region ?_ | refine LWp.block ?_ | refine LWp.exit ?_ | refine LWp.ret ?_ | refine LWp.skip ?_ | refine LOps.valA ?_ | refine LOps.outA ?_ | refine LOps.whenA ?_ | refine LOps.pickA ?_)
  refine LOps.storeA (b := b10) (off := 0) (cs := leafL noLeaf) (l := leafL B1) ?_
  refine LOps.gen (fun S' => S.le S' ∧ S'.box b3 = some (leafL l) ∧ S'.box b4 = some (slotL s) ∧ S'.box b5 = some (slotL t) ∧ S'.box b7 = some (leafL A) ∧ S'.box b10 = some (leafL B1) ∧ S'.box b11 = some (slotL noSlot)) ⟨hle.setBox s10 _, (box_set_ne _ _ n3_10).trans k3, (box_set_ne _ _ n4_10).trans k4, (box_set_ne _ _ n5_10).trans k5, (box_set_ne _ _ n7_10).trans k7, (box_set _ _ _).trans (congrArg some (stLeaf _ _)), (box_set_ne _ _ m11_10).trans k11⟩ ?_
  clear hle k3 k4 k5 k7 k10 k11
  rintro Ss ⟨hle, k3, k4, k5, k7, k10, k11⟩
  refine LOps.storeA (b := b11) (off := 0) (cs := slotL noSlot) (l := slotL y3) ?_
  refine LOps.gen (fun S' => S.le S' ∧ S'.box b3 = some (leafL l) ∧ S'.box b4 = some (slotL s) ∧ S'.box b5 = some (slotL t) ∧ S'.box b7 = some (leafL A) ∧ S'.box b10 = some (leafL B1) ∧ S'.box b11 = some (slotL y3)) ⟨hle.setBox s11 _, (box_set_ne _ _ n3_11).trans k3, (box_set_ne _ _ n4_11).trans k4, (box_set_ne _ _ n5_11).trans k5, (box_set_ne _ _ n7_11).trans k7, (box_set_ne _ _ n10_11).trans k10, (box_set _ _ _).trans (congrArg some (rfl))⟩ ?_
  clear hle k3 k4 k5 k7 k10 k11
  rintro Ss ⟨hle, k3, k4, k5, k7, k10, k11⟩
  refine LOps.gen (fun S' => S.le S' ∧ S'.box b4 = some (slotL s) ∧ S'.box b7 = some (leafL A) ∧ S'.box b10 = some (leafL B1)) ⟨hle, k4, k7, k10⟩ ?_
  clear hle k3 k4 k5 k7 k10 k11
  rintro Sk ⟨hle, k4, k7, k10⟩
  repeat (first | refine LOps.valH (LVal.load hD rfl rfl k10 rfl (rdLeaf B1)) ?_ | refine LOps.nil ?_ | refine andThen_normal ?_ | refine andThen_exit ?_ | refine andThen_ret ?_ | refine inBlock_normal ?_ | refine inBlock_ret ?_ | refine inBlock_here ?_ | refine inBlock_out rfl ?_ | refine LWp.seq ?_ | refine LWp.region ?_ | refine LWp.block ?_ | refine LWp.exit ?_ | refine LWp.ret ?_ | refine LWp.skip ?_ | refine LOps.val (LVal.call rfl rfl (by rw [hP]; exact Try.func16) rfl (by decide) (p4)) rfl rfl rfl ?_ | refine LOps.whenC (LVal.call rfl rfl (by rw [hP]; exact Try.func16) rfl (by decide) (p4)) ?_ | refine LOps.valA ?_ | refine LOps.outA ?_ | refine LOps.whenA ?_ | refine LOps.pickA ?_)
  refine LOps.storeA (b := b10) (off := 0) (cs := leafL B1) (l := leafL B) ?_
  refine LOps.gen (fun S' => S.le S' ∧ S'.box b4 = some (slotL s) ∧ S'.box b7 = some (leafL A) ∧ S'.box b10 = some (leafL B)) ⟨hle.setBox s10 _, (box_set_ne _ _ n4_10).trans k4, (box_set_ne _ _ n7_10).trans k7, (box_set _ _ _).trans (congrArg some (stLeaf _ _))⟩ ?_
  clear hle k4 k7 k10
  rintro Ss ⟨hle, k4, k7, k10⟩
  refine LOps.gen (fun S' => S.le S' ∧ S'.box b7 = some (leafL A) ∧ S'.box b10 = some (leafL B)) ⟨hle, k7, k10⟩ ?_
  clear hle k4 k7 k10
  rintro Sk ⟨hle, k7, k10⟩
  have q1 := len_L hP A R.oa.p
  have q2 := len_L hP B R.ob.p
  rw [← R.n] at q2
  have hA := R.fa.le
  clear p1 p2 p3 p4
  repeat (first | refine LOps.nil ?_ | refine andThen_normal ?_ | refine andThen_exit ?_ | refine andThen_ret ?_ | refine inBlock_normal ?_ | refine inBlock_ret ?_ | refine inBlock_here ?_ | refine inBlock_out rfl ?_ | refine LWp.seq ?_ | refine LWp.region ?_ | refine LWp.block ?_ | refine LWp.exit ?_ | refine LWp.ret ?_ | refine LWp.skip ?_ | refine LOps.valA ?_ | refine LOps.outA ?_ | refine LOps.whenA ?_ | refine LOps.pickA ?_ | refine LOps.storeA ?_)
  refine LWp.drawL [0, 1, 2, 3, 4] (by rw [hP]; rfl) rfl ?_
  repeat (first | refine LRl.val (fun _ _ => (LVal.call rfl rfl (by rw [hP]; exact Try.func15) rfl (by decide) (q1))) rfl rfl rfl ?_ | refine LRl.val (fun _ _ => (LVal.call rfl rfl (by rw [hP]; exact Try.func15) rfl (by decide) (q2))) rfl rfl rfl ?_ | refine LRl.valH (LVal.load hD rfl rfl k7 rfl (rdLeaf A)) ?_ (fun _ hS => LVal.load hD rfl rfl (hS.box _ _ k7 (by first | exact id | (intro hx; rcases hx with hx | hx <;> omega) | (intro hx; have hx2 : _ = _ := hx; omega))) rfl (rdLeaf A)) | refine LRl.valH (LVal.load hD rfl rfl k10 rfl (rdLeaf B)) ?_ (fun _ hS => LVal.load hD rfl rfl (hS.box _ _ k10 (by first | exact id | (intro hx; rcases hx with hx | hx <;> omega) | (intro hx; have hx2 : _ = _ := hx; omega))) rfl (rdLeaf B)) | refine LRl.val (fun _ _ => LVal.to (LVal.binOp hD rfl rfl rfl rfl) (r' := .one (.v (.bool true))) (congrArg (fun b => TV.one (.v (.bool b))) (by first | exact decide_eq_true (by omega) | (rw [beq_iff_eq]; omega) | (rw [bne_iff_ne]; omega)))) rfl rfl rfl ?_ | refine LRl.val (fun _ _ => LVal.to (LVal.binOp hD rfl rfl rfl rfl) (r' := .one (.v (.bool false))) (congrArg (fun b => TV.one (.v (.bool b))) (by first | exact decide_eq_false (by omega) | (rw [beq_eq_false_iff_ne]; omega) | (rw [bne_eq_false_iff_eq]; omega)))) rfl rfl rfl ?_ | refine LRl.valW ?_ | refine LRl.valC (fun _ => (LVal.call rfl rfl (by rw [hP]; exact Try.func15) rfl (by decide) (q1))) ?_ | refine LRl.valC (fun _ => (LVal.call rfl rfl (by rw [hP]; exact Try.func15) rfl (by decide) (q2))) ?_ | refine LRl.whenC (fun _ => (LVal.call rfl rfl (by rw [hP]; exact Try.func15) rfl (by decide) (q1))) ?_ | refine LRl.whenC (fun _ => (LVal.call rfl rfl (by rw [hP]; exact Try.func15) rfl (by decide) (q2))) ?_ | refine LRl.nil ?_ | refine LRl.valA ?_ | refine LRl.outA ?_ | refine LRl.whenA ?_ | refine LRl.pickA ?_)
  repeat (first | refine LWp.condF rfl ?_ | refine LOps.nil ?_ | refine andThen_normal ?_ | refine andThen_exit ?_ | refine andThen_ret ?_ | refine inBlock_normal ?_ | refine inBlock_ret ?_ | refine inBlock_here ?_ | refine inBlock_out rfl ?_ | refine LWp.seq ?_ | refine LWp.region ?_ | refine LWp.block ?_ | refine LWp.exit ?_ | refine LWp.ret ?_ | refine LWp.skip ?_ | refine LOps.valA ?_ | refine LOps.outA ?_ | refine LOps.whenA ?_ | refine LOps.pickA ?_ | refine LOps.storeA ?_)
  refine LWp.loop (fun m T S' => ∃ (T' : Nat → TV) (j : Nat), j ≤ A.p % 16 ∧ m = A.p % 16 - j ∧ S.le S' ∧ S'.box b7 = some (leafL A) ∧ S'.box b10 = some (leafL B) ∧ T = over T' [(7, ptr b7), (10, ptr b10), (13, .one (iv (j : Nat)))]) (A.p % 16) ?_ ?_
  · exact ⟨_, 0, by omega, rfl, hle, k7, k10, holds.over ⟨rfl, rfl, rfl, trivial⟩⟩
  clear hle k7 k10
  rintro m T S4 ⟨T', j, hj, rfl, hle, k7, k10, rfl⟩
  repeat (first | refine LOps.valH (LVal.load hD rfl rfl k7 rfl (rdLeaf A)) ?_ | refine LOps.nil ?_ | refine andThen_normal ?_ | refine andThen_exit ?_ | refine andThen_ret ?_ | refine inBlock_normal ?_ | refine inBlock_ret ?_ | refine inBlock_here ?_ | refine inBlock_out rfl ?_ | refine LWp.seq ?_ | refine LWp.region ?_ | refine LWp.block ?_ | refine LWp.exit ?_ | refine LWp.ret ?_ | refine LWp.skip ?_ | refine LOps.val (LVal.call rfl rfl (by rw [hP]; exact Try.func15) rfl (by decide) (q1)) rfl rfl rfl ?_ | refine LOps.whenC (LVal.call rfl rfl (by rw [hP]; exact Try.func15) rfl (by decide) (q1)) ?_ | refine LOps.valA ?_ | refine LOps.outA ?_ | refine LOps.whenA ?_ | refine LOps.pickA ?_ | refine LOps.storeA ?_)
  refine LWp.cond rfl (fun h => ?_) (fun h => ?_)
  · have hlt : j < A.p % 16 := by
      have h : decide ((j : Int) < ((A.p % 16 : Nat) : Int)) = true := h
      rw [decide_eq_true_iff] at h; omega
    clear h
    have r1 := at_L hP A R.oa (j : Nat)
    have r2 := at_L hP B R.ob (j : Nat)
    rw [at_rank R.fa hlt] at r1
    rw [at_rank R.fb (by rw [← R.n]; exact hlt), ← R.rk j hlt] at r2
    obtain ⟨x, hx⟩ : ∃ x, x = A.rank j := ⟨_, rfl⟩
    rw [← hx] at r1 r2
    repeat (first | refine LOps.valH (LVal.load hD rfl rfl k7 rfl (rdLeaf A)) ?_ | refine LOps.nil ?_ | refine andThen_normal ?_ | refine andThen_exit ?_ | refine andThen_ret ?_ | refine inBlock_normal ?_ | refine inBlock_ret ?_ | refine inBlock_here ?_ | refine inBlock_out rfl ?_ | refine LWp.seq ?_ | refine LWp.region ?_ | refine LWp.block ?_ | refine LWp.exit ?_ | refine LWp.ret ?_ | refine LWp.skip ?_ | refine LOps.val (LVal.call rfl rfl (by rw [hP]; exact Try.func17) rfl (by decide) (r1)) rfl rfl rfl ?_ | refine LOps.whenC (LVal.call rfl rfl (by rw [hP]; exact Try.func17) rfl (by decide) (r1)) ?_ | refine LOps.valA ?_ | refine LOps.outA ?_ | refine LOps.whenA ?_ | refine LOps.pickA ?_)
    skip
    refine LOps.do (LDo.alloc hD rfl rfl rfl) rfl rfl rfl ?_
    rintro _ _ ⟨b14, hb14, rfl, rfl⟩
    have n7_14 := fresh_ne hb14 k7
    have m14_7 := n7_14.symm
    have n10_14 := fresh_ne hb14 k10
    have m14_10 := n10_14.symm
    have s14 := hle.none hb14
    refine LOps.gen (fun S' => S.le S' ∧ S'.box b7 = some (leafL A) ∧ S'.box b10 = some (leafL B) ∧ S'.box b14 = some (slotL noSlot)) ⟨hle.newBox hb14 _, (box_new_ne _ _ n7_14).trans k7, (box_new_ne _ _ n10_14).trans k10, box_new _ _ _⟩ ?_
    clear hle hb14 k7 k10
    rintro S14 ⟨hle, k7, k10, k14⟩
    refine LOps.storeA (b := b14) (off := 0) (cs := slotL noSlot) (l := slotL x) ?_
    refine LOps.gen (fun S' => S.le S' ∧ S'.box b7 = some (leafL A) ∧ S'.box b10 = some (leafL B) ∧ S'.box b14 = some (slotL x)) ⟨hle.setBox s14 _, (box_set_ne _ _ n7_14).trans k7, (box_set_ne _ _ n10_14).trans k10, (box_set _ _ _).trans (congrArg some (rfl))⟩ ?_
    clear hle k7 k10 k14
    rintro Ss ⟨hle, k7, k10, k14⟩
    repeat (first | refine LOps.valH (LVal.load hD rfl rfl k10 rfl (rdLeaf B)) ?_ | refine LOps.nil ?_ | refine andThen_normal ?_ | refine andThen_exit ?_ | refine andThen_ret ?_ | refine inBlock_normal ?_ | refine inBlock_ret ?_ | refine inBlock_here ?_ | refine inBlock_out rfl ?_ | refine LWp.seq ?_ | refine LWp.region ?_ | refine LWp.block ?_ | refine LWp.exit ?_ | refine LWp.ret ?_ | refine LWp.skip ?_ | refine LOps.val (LVal.call rfl rfl (by rw [hP]; exact Try.func17) rfl (by decide) (r2)) rfl rfl rfl ?_ | refine LOps.whenC (LVal.call rfl rfl (by rw [hP]; exact Try.func17) rfl (by decide) (r2)) ?_ | refine LOps.valA ?_ | refine LOps.outA ?_ | refine LOps.whenA ?_ | refine LOps.pickA ?_)
    skip
    refine LOps.do (LDo.alloc hD rfl rfl rfl) rfl rfl rfl ?_
    rintro _ _ ⟨b16, hb16, rfl, rfl⟩
    have n7_16 := fresh_ne hb16 k7
    have m16_7 := n7_16.symm
    have n10_16 := fresh_ne hb16 k10
    have m16_10 := n10_16.symm
    have n14_16 := fresh_ne hb16 k14
    have m16_14 := n14_16.symm
    have s16 := hle.none hb16
    refine LOps.gen (fun S' => S.le S' ∧ S'.box b7 = some (leafL A) ∧ S'.box b10 = some (leafL B) ∧ S'.box b14 = some (slotL x) ∧ S'.box b16 = some (slotL noSlot)) ⟨hle.newBox hb16 _, (box_new_ne _ _ n7_16).trans k7, (box_new_ne _ _ n10_16).trans k10, (box_new_ne _ _ n14_16).trans k14, box_new _ _ _⟩ ?_
    clear hle hb16 k7 k10 k14
    rintro S16 ⟨hle, k7, k10, k14, k16⟩
    refine LOps.storeA (b := b16) (off := 0) (cs := slotL noSlot) (l := slotL x) ?_
    refine LOps.gen (fun S' => S.le S' ∧ S'.box b7 = some (leafL A) ∧ S'.box b10 = some (leafL B) ∧ S'.box b14 = some (slotL x) ∧ S'.box b16 = some (slotL x)) ⟨hle.setBox s16 _, (box_set_ne _ _ n7_16).trans k7, (box_set_ne _ _ n10_16).trans k10, (box_set_ne _ _ n14_16).trans k14, (box_set _ _ _).trans (congrArg some (rfl))⟩ ?_
    clear hle k7 k10 k14 k16
    rintro Ss ⟨hle, k7, k10, k14, k16⟩
    by_cases h0 : j = 0
    · repeat (first | refine LOps.nil ?_ | refine andThen_normal ?_ | refine andThen_exit ?_ | refine andThen_ret ?_ | refine inBlock_normal ?_ | refine inBlock_ret ?_ | refine inBlock_here ?_ | refine inBlock_out rfl ?_ | refine LWp.seq ?_ | refine LWp.region ?_ | refine LWp.block ?_ | refine LWp.exit ?_ | refine LWp.ret ?_ | refine LWp.skip ?_ | refine LOps.valA ?_ | refine LOps.outA ?_ | refine LOps.whenA ?_ | refine LOps.pickA ?_ | refine LOps.storeA ?_)
      refine LWp.cond rfl (fun h => ?_) (fun h => ?_)
      · exfalso
        have h : ((!(sameS x x) || !true) || !true) = true := h
        rw [sameS_self] at h; cases h
      clear h
      repeat (first | refine LOps.nil ?_ | refine andThen_normal ?_ | refine andThen_exit ?_ | refine andThen_ret ?_ | refine inBlock_normal ?_ | refine inBlock_ret ?_ | refine inBlock_here ?_ | refine inBlock_out rfl ?_ | refine LWp.seq ?_ | refine LWp.region ?_ | refine LWp.block ?_ | refine LWp.exit ?_ | refine LWp.ret ?_ | refine LWp.skip ?_ | refine LOps.valA ?_ | refine LOps.outA ?_ | refine LOps.whenA ?_ | refine LOps.pickA ?_ | refine LOps.storeA ?_)
      refine LWp.cond rfl (fun h => ?_) (fun h => ?_)
      · exfalso
        have h : decide ((j : Int) > 0) = true := h
        rw [decide_eq_true_iff] at h; omega
      clear h
      repeat (first | refine LOps.nil ?_ | refine andThen_normal ?_ | refine andThen_exit ?_ | refine andThen_ret ?_ | refine inBlock_normal ?_ | refine inBlock_ret ?_ | refine inBlock_here ?_ | refine inBlock_out rfl ?_ | refine LWp.seq ?_ | refine LWp.region ?_ | refine LWp.block ?_ | refine LWp.exit ?_ | refine LWp.ret ?_ | refine LWp.skip ?_ | refine LOps.valA ?_ | refine LOps.outA ?_ | refine LOps.whenA ?_ | refine LOps.pickA ?_ | refine LOps.storeA ?_)
      exact ⟨A.p % 16 - (j + 1), by omega, _, j + 1, by omega, rfl, hle, k7, k10, holds.over ⟨rfl, rfl, rfl, trivial⟩⟩
    · obtain ⟨i, rfl⟩ : ∃ i, j = i + 1 := ⟨j - 1, by omega⟩
      have hless := R.fa.lt i hlt
      rw [← hx] at hless
      have r3 := at_L hP A R.oa (((i + 1 : Nat) : Int) - 1)
      have e3 : atL A (((i + 1 : Nat) : Int) - 1) = (A.rank i, true) := by
        rw [show ((i + 1 : Nat) : Int) - 1 = ((i : Nat) : Int) by omega]
        exact at_rank R.fa (by omega)
      rw [e3] at r3
      have r4 := less_M hP (A.rank i).m x.m
      rw [hless] at r4
      generalize A.rank i = w at *
      repeat (first | refine LOps.nil ?_ | refine andThen_normal ?_ | refine andThen_exit ?_ | refine andThen_ret ?_ | refine inBlock_normal ?_ | refine inBlock_ret ?_ | refine inBlock_here ?_ | refine inBlock_out rfl ?_ | refine LWp.seq ?_ | refine LWp.region ?_ | refine LWp.block ?_ | refine LWp.exit ?_ | refine LWp.ret ?_ | refine LWp.skip ?_ | refine LOps.valA ?_ | refine LOps.outA ?_ | refine LOps.whenA ?_ | refine LOps.pickA ?_ | refine LOps.storeA ?_)
      refine LWp.cond rfl (fun h => ?_) (fun h => ?_)
      · exfalso
        have h : ((!(sameS x x) || !true) || !true) = true := h
        rw [sameS_self] at h; cases h
      clear h
      repeat (first | refine LOps.nil ?_ | refine andThen_normal ?_ | refine andThen_exit ?_ | refine andThen_ret ?_ | refine inBlock_normal ?_ | refine inBlock_ret ?_ | refine inBlock_here ?_ | refine inBlock_out rfl ?_ | refine LWp.seq ?_ | refine LWp.region ?_ | refine LWp.block ?_ | refine LWp.exit ?_ | refine LWp.ret ?_ | refine LWp.skip ?_ | refine LOps.valA ?_ | refine LOps.outA ?_ | refine LOps.whenA ?_ | refine LOps.pickA ?_ | refine LOps.storeA ?_)
      refine LWp.cond rfl (fun h => ?_) (fun h => ?_)
      rotate_left
      · exfalso
        have h : decide (((i + 1 : Nat) : Int) > 0) = false := h
        rw [decide_eq_false_iff_not] at h; omega
      clear h
      repeat (first | refine LOps.valH (LVal.load hD rfl rfl k7 rfl (rdLeaf A)) ?_ | refine LOps.nil ?_ | refine andThen_normal ?_ | refine andThen_exit ?_ | refine andThen_ret ?_ | refine inBlock_normal ?_ | refine inBlock_ret ?_ | refine inBlock_here ?_ | refine inBlock_out rfl ?_ | refine LWp.seq ?_ | refine LWp.region ?_ | refine LWp.block ?_ | refine LWp.exit ?_ | refine LWp.ret ?_ | refine LWp.skip ?_ | refine LOps.val (LVal.call rfl rfl (by rw [hP]; exact Try.func17) rfl (by decide) (r3)) rfl rfl rfl ?_ | refine LOps.whenC (LVal.call rfl rfl (by rw [hP]; exact Try.func17) rfl (by decide) (r3)) ?_ | refine LOps.valA ?_ | refine LOps.outA ?_ | refine LOps.whenA ?_ | refine LOps.pickA ?_)
      skip
      refine LOps.do (LDo.alloc hD rfl rfl rfl) rfl rfl rfl ?_
      rintro _ _ ⟨b18, hb18, rfl, rfl⟩
      have n7_18 := fresh_ne hb18 k7
      have m18_7 := n7_18.symm
      have n10_18 := fresh_ne hb18 k10
      have m18_10 := n10_18.symm
      have n14_18 := fresh_ne hb18 k14
      have m18_14 := n14_18.symm
      have n16_18 := fresh_ne hb18 k16
      have m18_16 := n16_18.symm
      have s18 := hle.none hb18
      refine LOps.gen (fun S' => S.le S' ∧ S'.box b7 = some (leafL A) ∧ S'.box b10 = some (leafL B) ∧ S'.box b14 = some (slotL x) ∧ S'.box b16 = some (slotL x) ∧ S'.box b18 = some (slotL noSlot)) ⟨hle.newBox hb18 _, (box_new_ne _ _ n7_18).trans k7, (box_new_ne _ _ n10_18).trans k10, (box_new_ne _ _ n14_18).trans k14, (box_new_ne _ _ n16_18).trans k16, box_new _ _ _⟩ ?_
      clear hle hb18 k7 k10 k14 k16
      rintro S18 ⟨hle, k7, k10, k14, k16, k18⟩
      refine LOps.storeA (b := b18) (off := 0) (cs := slotL noSlot) (l := slotL w) ?_
      refine LOps.gen (fun S' => S.le S' ∧ S'.box b7 = some (leafL A) ∧ S'.box b10 = some (leafL B) ∧ S'.box b14 = some (slotL x) ∧ S'.box b16 = some (slotL x) ∧ S'.box b18 = some (slotL w)) ⟨hle.setBox s18 _, (box_set_ne _ _ n7_18).trans k7, (box_set_ne _ _ n10_18).trans k10, (box_set_ne _ _ n14_18).trans k14, (box_set_ne _ _ n16_18).trans k16, (box_set _ _ _).trans (congrArg some (rfl))⟩ ?_
      clear hle k7 k10 k14 k16 k18
      rintro Ss ⟨hle, k7, k10, k14, k16, k18⟩
      repeat (first | refine LWp.condF rfl ?_ | refine LOps.nil ?_ | refine andThen_normal ?_ | refine andThen_exit ?_ | refine andThen_ret ?_ | refine inBlock_normal ?_ | refine inBlock_ret ?_ | refine inBlock_here ?_ | refine inBlock_out rfl ?_ | refine LWp.seq ?_ | refine LWp.region ?_ | refine LWp.block ?_ | refine LWp.exit ?_ | refine LWp.ret ?_ | refine LWp.skip ?_ | refine LOps.val (LVal.call rfl rfl (by rw [hP]; exact Try.func18) rfl (by decide) (r4)) rfl rfl rfl ?_ | refine LOps.whenC (LVal.call rfl rfl (by rw [hP]; exact Try.func18) rfl (by decide) (r4)) ?_ | refine LOps.valA ?_ | refine LOps.outA ?_ | refine LOps.whenA ?_ | refine LOps.pickA ?_ | refine LOps.storeA ?_)
      exact ⟨A.p % 16 - (i + 1 + 1), by omega, _, i + 1 + 1, by omega, rfl, hle, k7, k10, holds.over ⟨rfl, rfl, rfl, trivial⟩⟩
  · repeat (first | refine LOps.nil ?_ | refine andThen_normal ?_ | refine andThen_exit ?_ | refine andThen_ret ?_ | refine inBlock_normal ?_ | refine inBlock_ret ?_ | refine inBlock_here ?_ | refine inBlock_out rfl ?_ | refine LWp.seq ?_ | refine LWp.region ?_ | refine LWp.block ?_ | refine LWp.exit ?_ | refine LWp.ret ?_ | refine LWp.skip ?_ | refine LOps.valA ?_ | refine LOps.outA ?_ | refine LOps.whenA ?_ | refine LOps.pickA ?_ | refine LOps.storeA ?_)
    exact ⟨_, LRes.one rfl, rfl⟩
end Go.Proofs.Ytgkjhlmfgaaddaa.LF

namespace Go.Proofs.Ytgkjhlmfgaaddaa
open Go.RowKit LF
theorem mleafRows_walk (W : World) (v0 : Value) (l0 : List LV) (y0 : Typed LF.D 31 l0) (g0 : RepT (G0 Try.prog W) W (allCells W) (argTV ti31 l0) v0) (v1 : Value) (l1 : List LV) (y1 : Typed LF.D 28 l1) (g1 : RepT (G0 Try.prog W) W (allCells W) (argTV ti28 l1) v1) (v2 : Value) (l2 : List LV) (y2 : Typed LF.D 28 l2) (g2 : RepT (G0 Try.prog W) W (allCells W) (argTV ti28 l2) v2) :
    Calls Try.prog 3 #[v0, v1, v2] W fun e W' => e = .returned (.bool true) ∧ Below W.heap.size W W' := by
  obtain ⟨l, rfl, hl⟩ := typed_leaf y0
  obtain ⟨s, rfl, hs⟩ := typed_slot y1
  obtain ⟨t, rfl, ht⟩ := typed_slot y2
  exact law_calls (fun G S h => rows_L h l hl s t hs ht S) (.cons (vs := [v1, v2]) g0 (.cons (vs := [v2]) g1 (.cons (vs := []) g2 .nil)))
end Go.Proofs.Ytgkjhlmfgaaddaa
