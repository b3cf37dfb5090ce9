/- LinearKnown: the chapter's examples. -/
import Derived.Test.YtandbjhedkgldaaLLm
namespace Go.Proofs.Ytandbjhedkgldaa.LF
open Go.RowKit H
set_option linter.unusedVariables false

def kPut : OpV := ⟨2, { data := #[97] }, { data := #[49] }, noBytes, false, false, []⟩
def kGet : OpV := ⟨1, { data := #[97] }, noBytes, noBytes, false, false, []⟩
def kOne : Ans := ⟨0, true, noBytes, { data := #[49] }⟩
def kNone : Ans := ⟨0, false, noBytes, noBytes⟩
def kFull : Ans := ⟨5, false, noBytes, noBytes⟩
def rowE (p g : Ans) : List Ev := [⟨1, 1, kPut, noAns⟩, ⟨1, 2, kGet, noAns⟩, ⟨2, 1, noOp, p⟩, ⟨2, 2, noOp, g⟩, ⟨3, 1, noOp, p⟩, ⟨3, 2, noOp, g⟩]
def behindE : List Ev := [⟨1, 1, kPut, noAns⟩, ⟨2, 1, noOp, noAns⟩, ⟨3, 1, noOp, noAns⟩, ⟨1, 2, kGet, noAns⟩, ⟨2, 2, noOp, noAns⟩, ⟨3, 2, noOp, noAns⟩]

set_option maxHeartbeats 4000000 in
theorem row_L {G : Ctx} (hP : G.P = Try.prog) (p g : Ans) (b1 b2 : Nat) (S : LS) (k1 : S.box b1 = some (opL kPut)) (k2 : S.box b2 = some (opL kGet)) :
    LCalls G 24 [.agg (ansL p), .agg (ansL g), ptr b1, ptr b2] (fun r S' => r = .one (.sl .sh ((rowE p g).map evL)) ∧ S' = S) S := by
  have h1 : LCalls G 24 [.agg (ansL p), .agg (ansL g), ptr b1, ptr b2] (fun r S' => S.le S' ∧ r = .one (.sl .sh ((rowE p g).map evL))) S := by
    have hD : TabOK G.P D := by rw [hP]; exact hD0
    refine LCalls.enter (fn := Try.f24) (by rw [hP]; exact Try.func24) rfl rfl ?_
    repeat (first | refine LOps.nil ?_ | refine andThen_normal ?_ | refine andThen_exit ?_ | refine andThen_ret ?_ | refine inBlock_normal ?_ | refine inBlock_ret ?_ | refine inBlock_here ?_ | refine inBlock_out rfl ?_ | refine LWp.seq ?_ | refine LWp.region ?_ | refine LWp.block ?_ | refine LWp.exit ?_ | refine LWp.ret ?_ | refine LWp.skip ?_ | refine LOps.valA ?_ | refine LOps.outA ?_ | refine LOps.whenA ?_ | refine LOps.pickA ?_ | refine LOps.storeA ?_)
    refine LOps.do (LDo.box rfl rfl) rfl rfl rfl ?_
    rintro _ _ ⟨b4, hb4, rfl, rfl⟩
    have l4 := LS.le.newBox (.refl S) hb4 (ansL p)
    replace k1 := l4.box _ _ k1
    replace k2 := l4.box _ _ k2
    repeat (first | refine LOps.nil ?_ | refine andThen_normal ?_ | refine andThen_exit ?_ | refine andThen_ret ?_ | refine inBlock_normal ?_ | refine inBlock_ret ?_ | refine inBlock_here ?_ | refine inBlock_out rfl ?_ | refine LWp.seq ?_ | refine LWp.region ?_ | refine LWp.block ?_ | refine LWp.exit ?_ | refine LWp.ret ?_ | refine LWp.skip ?_ | refine LOps.valA ?_ | refine LOps.outA ?_ | refine LOps.whenA ?_ | refine LOps.pickA ?_ | refine LOps.storeA ?_)
    refine LOps.do (LDo.box rfl rfl) rfl rfl rfl ?_
    rintro _ _ ⟨b5, hb5, rfl, rfl⟩
    have q4 : (S.newBox b4 (ansL p)).box b4 = some (ansL p) := box_new _ _ _
    have l5 := LS.le.newBox (.refl (S.newBox b4 (ansL p))) hb5 (ansL g)
    replace k1 := l5.box _ _ k1
    replace k2 := l5.box _ _ k2
    have k4 := l5.box _ _ q4
    have k5 : ((S.newBox b4 (ansL p)).newBox b5 (ansL g)).box b5 = some (ansL g) := box_new _ _ _
    have l := l4.trans l5
    refine LOps.gen (fun S2 => S.le S2 ∧ S2.box b1 = some (opL kPut) ∧ S2.box b2 = some (opL kGet) ∧ S2.box b4 = some (ansL p) ∧ S2.box b5 = some (ansL g)) ⟨l, k1, k2, k4, k5⟩ ?_
    clear l l4 l5 q4 k1 k2 k4 k5 hb4 hb5
    rintro S2 ⟨l, k1, k2, k4, k5⟩
    repeat (first | refine LOps.valH (LVal.shTo (LVal.build hD rfl rfl rfl rfl rfl rfl rfl) rfl) ?_ | refine LOps.val (r := .one (.sl .sh ((rowE p g).map evL))) (LVal.to (LVal.buildSlice hD rfl rfl rfl rfl rfl rfl rfl rfl rfl rfl) rfl) rfl rfl rfl ?_ | refine LOps.nil ?_ | refine andThen_normal ?_ | refine andThen_exit ?_ | refine andThen_ret ?_ | refine inBlock_normal ?_ | refine inBlock_ret ?_ | refine inBlock_here ?_ | refine inBlock_out rfl ?_ | refine LWp.seq ?_ | refine LWp.region ?_ | refine LWp.block ?_ | refine LWp.exit ?_ | refine LWp.ret ?_ | refine LWp.skip ?_ | refine LOps.valA ?_ | refine LOps.outA ?_ | refine LOps.whenA ?_ | refine LOps.pickA ?_ | refine LOps.storeA ?_)
    exact ⟨_, LRes.sh (LRes.one rfl), l, rfl⟩
  intro K w vals i1 i2
  exact (LCalls.forget (Q := fun r _ => r = .one (.sl .sh ((rowE p g).map evL))) h1 K w vals i1 i2).mono fun e w' ⟨r, v, S', K', e1, e2, e3, e4, e5, e6⟩ => ⟨r, v, S', K', e1, e2, e3, e4, e6, e5⟩

attribute [local irreducible] andThen inBlock LWp LOps LCalls

theorem kn_a : checkL [] (rowE kNone kOne) = (-1, 0) := by decide +kernel
theorem kn_b : checkL [] (rowE kNone kNone) = (3, 32) := by decide +kernel
theorem kn_c : checkL [] behindE = (4, 32) := by decide +kernel
theorem kn_d : checkL [] (rowE kFull kNone) = (-1, 0) := by decide +kernel
theorem kn_e : afterL [] (rowE kNone kOne) = [⟨{ data := #[97] }, { data := #[49] }⟩] := by decide +kernel
theorem kn_f : someS [] (rowE kNone kNone) = true := by decide +kernel
theorem kn_g : someS [] behindE = false := by decide +kernel
theorem kn_h : afterL [] (rowE kFull kNone) = [] := by decide +kernel
theorem kn_i : (witS behindE).length = 2 := by decide +kernel

set_option maxHeartbeats 16000000 in
set_option maxRecDepth 100000 in
theorem known8_L {G : Ctx} (hP : G.P = Try.prog) (S : LS) : LCalls G 7 [] (fun r _ => r = .one (bv true)) S := by
  have hD : TabOK G.P D := by rw [hP]; exact hD0
  have ca := LF.check_F hP [] (by decide) (rowE kNone kOne) (by decide)
  rw [kn_a] at ca
  have cb := LF.check_F hP [] (by decide) (rowE kNone kNone) (by decide)
  rw [kn_b] at cb
  have cc := LF.check_F hP [] (by decide) behindE (by decide)
  rw [kn_c] at cc
  have cd := LF.check_F hP [] (by decide) (rowE kFull kNone) (by decide)
  rw [kn_d] at cd
  have ce := after_F hP [] (by decide) (rowE kNone kOne) (by decide)
  rw [kn_e] at ce
  have cf := some_F hP [] (by decide) (rowE kNone kNone) (by decide)
  rw [kn_f] at cf
  have cg := some_F hP [] (by decide) behindE (by decide)
  rw [kn_g] at cg
  have ch := after_F hP [] (by decide) (rowE kFull kNone) (by decide)
  rw [kn_h] at ch
  have ci := witness_F hP behindE (by decide) (by decide)
  have hi := kn_i
  generalize witS behindE = W at *
  have cw := wakes8_F hP
  refine LCalls.enter (fn := Try.f7) (by rw [hP]; exact Try.func7) rfl rfl ?_
  repeat (first | refine LOps.valH (LVal.shTo (LVal.build hD rfl rfl rfl rfl rfl rfl rfl) rfl) ?_ | refine LOps.nil ?_ | refine andThen_normal ?_ | refine andThen_exit ?_ | refine andThen_ret ?_ | refine inBlock_normal ?_ | refine inBlock_ret ?_ | refine inBlock_here ?_ | refine inBlock_out rfl ?_ | refine LWp.seq ?_ | refine LWp.region ?_ | refine LWp.block ?_ | refine LWp.exit ?_ | refine LWp.ret ?_ | refine LWp.skip ?_ | refine LOps.valA ?_ | refine LOps.outA ?_ | refine LOps.whenA ?_ | refine LOps.pickA ?_ | refine LOps.storeA ?_)
  refine LOps.do (LDo.alloc hD rfl rfl rfl) rfl rfl rfl ?_
  rintro _ _ ⟨b1, hb1, rfl, rfl⟩
  refine LOps.gen (fun S2 => S2.box b1 = some (lzero ti34)) (box_new _ _ _) ?_
  clear hb1 
  rintro S2 k1
  refine LOps.storeA (b := b1) (off := 0) (cs := lzero ti34) (l := opL kPut) ?_
  refine LOps.gen (fun S2 => S2.box b1 = some (opL kPut)) (box_set _ _ _) ?_
  clear k1
  rintro S2 k1
  repeat (first | refine LOps.valH (LVal.shTo (LVal.build hD rfl rfl rfl rfl rfl rfl rfl) rfl) ?_ | refine LOps.nil ?_ | refine andThen_normal ?_ | refine andThen_exit ?_ | refine andThen_ret ?_ | refine inBlock_normal ?_ | refine inBlock_ret ?_ | refine inBlock_here ?_ | refine inBlock_out rfl ?_ | refine LWp.seq ?_ | refine LWp.region ?_ | refine LWp.block ?_ | refine LWp.exit ?_ | refine LWp.ret ?_ | refine LWp.skip ?_ | refine LOps.valA ?_ | refine LOps.outA ?_ | refine LOps.whenA ?_ | refine LOps.pickA ?_ | refine LOps.storeA ?_)
  refine LOps.do (LDo.alloc hD rfl rfl rfl) rfl rfl rfl ?_
  rintro _ _ ⟨b2, hb2, rfl, rfl⟩
  have m1_2 := fresh_ne hb2 k1
  refine LOps.gen (fun S2 => S2.box b1 = some (opL kPut) ∧ S2.box b2 = some (lzero ti34)) ⟨(box_new_ne _ _ m1_2).trans k1, box_new _ _ _⟩ ?_
  clear hb2 k1
  rintro S3 ⟨k1, k2⟩
  refine LOps.storeA (b := b2) (off := 0) (cs := lzero ti34) (l := opL kGet) ?_
  refine LOps.gen (fun S2 => S2.box b1 = some (opL kPut) ∧ S2.box b2 = some (opL kGet)) ⟨(box_set_ne _ _ m1_2).trans k1, box_set _ _ _⟩ ?_
  clear k1 k2
  rintro S3 ⟨k1, k2⟩
  repeat (first | refine LOps.valH (LVal.shTo (LVal.build hD rfl rfl rfl rfl rfl rfl rfl) rfl) ?_ | refine LOps.nil ?_ | refine andThen_normal ?_ | refine andThen_exit ?_ | refine andThen_ret ?_ | refine inBlock_normal ?_ | refine inBlock_ret ?_ | refine inBlock_here ?_ | refine inBlock_out rfl ?_ | refine LWp.seq ?_ | refine LWp.region ?_ | refine LWp.block ?_ | refine LWp.exit ?_ | refine LWp.ret ?_ | refine LWp.skip ?_ | refine LOps.valA ?_ | refine LOps.outA ?_ | refine LOps.whenA ?_ | refine LOps.pickA ?_ | refine LOps.storeA ?_)
  refine LOps.do (LDo.alloc hD rfl rfl rfl) rfl rfl rfl ?_
  rintro _ _ ⟨b3, hb3, rfl, rfl⟩
  have m1_3 := fresh_ne hb3 k1
  have m2_3 := fresh_ne hb3 k2
  refine LOps.gen (fun S2 => S2.box b1 = some (opL kPut) ∧ S2.box b2 = some (opL kGet) ∧ S2.box b3 = some (lzero ti38)) ⟨(box_new_ne _ _ m1_3).trans k1, (box_new_ne _ _ m2_3).trans k2, box_new _ _ _⟩ ?_
  clear hb3 k1 k2
  rintro S4 ⟨k1, k2, k3⟩
  refine LOps.storeA (b := b3) (off := 0) (cs := lzero ti38) (l := ansL kOne) ?_
  refine LOps.gen (fun S2 => S2.box b1 = some (opL kPut) ∧ S2.box b2 = some (opL kGet) ∧ S2.box b3 = some (ansL kOne)) ⟨(box_set_ne _ _ m1_3).trans k1, (box_set_ne _ _ m2_3).trans k2, box_set _ _ _⟩ ?_
  clear k1 k2 k3
  rintro S4 ⟨k1, k2, k3⟩
  repeat (first | refine LOps.valH (LVal.shTo (LVal.build hD rfl rfl rfl rfl rfl rfl rfl) rfl) ?_ | refine LOps.nil ?_ | refine andThen_normal ?_ | refine andThen_exit ?_ | refine andThen_ret ?_ | refine inBlock_normal ?_ | refine inBlock_ret ?_ | refine inBlock_here ?_ | refine inBlock_out rfl ?_ | refine LWp.seq ?_ | refine LWp.region ?_ | refine LWp.block ?_ | refine LWp.exit ?_ | refine LWp.ret ?_ | refine LWp.skip ?_ | refine LOps.valA ?_ | refine LOps.outA ?_ | refine LOps.whenA ?_ | refine LOps.pickA ?_ | refine LOps.storeA ?_)
  refine LOps.do (LDo.alloc hD rfl rfl rfl) rfl rfl rfl ?_
  rintro _ _ ⟨b4, hb4, rfl, rfl⟩
  have m1_4 := fresh_ne hb4 k1
  have m2_4 := fresh_ne hb4 k2
  have m3_4 := fresh_ne hb4 k3
  refine LOps.gen (fun S2 => S2.box b1 = some (opL kPut) ∧ S2.box b2 = some (opL kGet) ∧ S2.box b3 = some (ansL kOne) ∧ S2.box b4 = some (lzero ti38)) ⟨(box_new_ne _ _ m1_4).trans k1, (box_new_ne _ _ m2_4).trans k2, (box_new_ne _ _ m3_4).trans k3, box_new _ _ _⟩ ?_
  clear hb4 k1 k2 k3
  rintro S5 ⟨k1, k2, k3, k4⟩
  refine LOps.storeA (b := b4) (off := 0) (cs := lzero ti38) (l := ansL kNone) ?_
  refine LOps.gen (fun S2 => S2.box b1 = some (opL kPut) ∧ S2.box b2 = some (opL kGet) ∧ S2.box b3 = some (ansL kOne) ∧ S2.box b4 = some (ansL kNone)) ⟨(box_set_ne _ _ m1_4).trans k1, (box_set_ne _ _ m2_4).trans k2, (box_set_ne _ _ m3_4).trans k3, box_set _ _ _⟩ ?_
  clear k1 k2 k3 k4
  rintro S5 ⟨k1, k2, k3, k4⟩
  repeat (first | refine LOps.valH (LVal.shTo (LVal.build hD rfl rfl rfl rfl rfl rfl rfl) rfl) ?_ | refine LOps.nil ?_ | refine andThen_normal ?_ | refine andThen_exit ?_ | refine andThen_ret ?_ | refine inBlock_normal ?_ | refine inBlock_ret ?_ | refine inBlock_here ?_ | refine inBlock_out rfl ?_ | refine LWp.seq ?_ | refine LWp.region ?_ | refine LWp.block ?_ | refine LWp.exit ?_ | refine LWp.ret ?_ | refine LWp.skip ?_ | refine LOps.valA ?_ | refine LOps.outA ?_ | refine LOps.whenA ?_ | refine LOps.pickA ?_ | refine LOps.storeA ?_)
  refine LOps.do (LDo.alloc hD rfl rfl rfl) rfl rfl rfl ?_
  rintro _ _ ⟨b5, hb5, rfl, rfl⟩
  have m1_5 := fresh_ne hb5 k1
  have m2_5 := fresh_ne hb5 k2
  have m3_5 := fresh_ne hb5 k3
  have m4_5 := fresh_ne hb5 k4
  refine LOps.gen (fun S2 => S2.box b1 = some (opL kPut) ∧ S2.box b2 = some (opL kGet) ∧ S2.box b3 = some (ansL kOne) ∧ S2.box b4 = some (ansL kNone) ∧ S2.box b5 = some (lzero ti38)) ⟨(box_new_ne _ _ m1_5).trans k1, (box_new_ne _ _ m2_5).trans k2, (box_new_ne _ _ m3_5).trans k3, (box_new_ne _ _ m4_5).trans k4, box_new _ _ _⟩ ?_
  clear hb5 k1 k2 k3 k4
  rintro S6 ⟨k1, k2, k3, k4, k5⟩
  refine LOps.storeA (b := b5) (off := 0) (cs := lzero ti38) (l := ansL kFull) ?_
  refine LOps.gen (fun S2 => S2.box b1 = some (opL kPut) ∧ S2.box b2 = some (opL kGet) ∧ S2.box b3 = some (ansL kOne) ∧ S2.box b4 = some (ansL kNone) ∧ S2.box b5 = some (ansL kFull)) ⟨(box_set_ne _ _ m1_5).trans k1, (box_set_ne _ _ m2_5).trans k2, (box_set_ne _ _ m3_5).trans k3, (box_set_ne _ _ m4_5).trans k4, box_set _ _ _⟩ ?_
  clear k1 k2 k3 k4 k5
  rintro S6 ⟨k1, k2, k3, k4, k5⟩
  repeat (first | refine LOps.valH (LDo.toVal (LDo.callV (cs := [.pointer (some ⟨b1, 0, none⟩), .pointer (some ⟨b2, 0, none⟩)]) rfl rfl rfl rfl (by rw [hP]; exact Try.func24) rfl (by decide) (row_L hP kNone kOne b1 b2 _ k1 k2))) ?_ | refine LOps.valH (LDo.toVal (LDo.callV (cs := [.pointer (some ⟨b1, 0, none⟩), .pointer (some ⟨b2, 0, none⟩)]) rfl rfl rfl rfl (by rw [hP]; exact Try.func24) rfl (by decide) (row_L hP kNone kNone b1 b2 _ k1 k2))) ?_ | refine LOps.valH (LDo.toVal (LDo.callV (cs := [.pointer (some ⟨b1, 0, none⟩), .pointer (some ⟨b2, 0, none⟩)]) rfl rfl rfl rfl (by rw [hP]; exact Try.func24) rfl (by decide) (row_L hP kFull kNone b1 b2 _ k1 k2))) ?_ | refine LOps.whenC (LDo.toVal (LDo.callV (cs := [.pointer (some ⟨b1, 0, none⟩), .pointer (some ⟨b2, 0, none⟩)]) rfl rfl rfl rfl (by rw [hP]; exact Try.func24) rfl (by decide) (row_L hP kNone kOne b1 b2 _ k1 k2))) ?_ | refine LOps.whenC (LDo.toVal (LDo.callV (cs := [.pointer (some ⟨b1, 0, none⟩), .pointer (some ⟨b2, 0, none⟩)]) rfl rfl rfl rfl (by rw [hP]; exact Try.func24) rfl (by decide) (row_L hP kNone kNone b1 b2 _ k1 k2))) ?_ | refine LOps.whenC (LDo.toVal (LDo.callV (cs := [.pointer (some ⟨b1, 0, none⟩), .pointer (some ⟨b2, 0, none⟩)]) rfl rfl rfl rfl (by rw [hP]; exact Try.func24) rfl (by decide) (row_L hP kFull kNone b1 b2 _ k1 k2))) ?_ | refine LOps.valH (LVal.makeFunc (vs := [.pointer (some ⟨b1, 0, none⟩), .pointer (some ⟨b2, 0, none⟩)]) rfl rfl) ?_ | refine LOps.valH (LVal.shTo (LVal.build hD rfl rfl rfl rfl rfl rfl rfl) rfl) ?_ | refine LOps.val (r := .one (.sl .sh (behindE.map evL))) (LVal.to (LVal.buildSlice hD rfl rfl rfl rfl rfl rfl rfl rfl rfl rfl) rfl) rfl rfl rfl ?_ | refine LOps.nil ?_ | refine andThen_normal ?_ | refine andThen_exit ?_ | refine andThen_ret ?_ | refine inBlock_normal ?_ | refine inBlock_ret ?_ | refine inBlock_here ?_ | refine inBlock_out rfl ?_ | refine LWp.seq ?_ | refine LWp.region ?_ | refine LWp.block ?_ | refine LWp.exit ?_ | refine LWp.ret ?_ | refine LWp.skip ?_ | refine LOps.val (LVal.call rfl rfl (by rw [hP]; exact Try.func11) rfl (by decide) (ca)) rfl rfl rfl ?_ | refine LOps.val (LVal.call rfl rfl (by rw [hP]; exact Try.func11) rfl (by decide) (cb)) rfl rfl rfl ?_ | refine LOps.val (LVal.call rfl rfl (by rw [hP]; exact Try.func11) rfl (by decide) (cc)) rfl rfl rfl ?_ | refine LOps.val (LVal.call rfl rfl (by rw [hP]; exact Try.func11) rfl (by decide) (cd)) rfl rfl rfl ?_ | refine LOps.val (LVal.call rfl rfl (by rw [hP]; exact Try.func19) rfl (by decide) (cf)) rfl rfl rfl ?_ | refine LOps.val (LVal.call rfl rfl (by rw [hP]; exact Try.func19) rfl (by decide) (cg)) rfl rfl rfl ?_ | refine LOps.val (LVal.call rfl rfl (by rw [hP]; exact Try.func17) rfl (by decide) (ce)) rfl rfl rfl ?_ | refine LOps.val (LVal.call rfl rfl (by rw [hP]; exact Try.func17) rfl (by decide) (ch)) rfl rfl rfl ?_ | refine LOps.val (LVal.call rfl rfl (by rw [hP]; exact Try.func13) rfl (by decide) (ci)) rfl rfl rfl ?_ | refine LOps.val (LVal.call rfl rfl (by rw [hP]; exact Try.func10) rfl (by decide) (cw)) rfl rfl rfl ?_ | refine LOps.whenC (LVal.call rfl rfl (by rw [hP]; exact Try.func11) rfl (by decide) (ca)) ?_ | refine LOps.whenC (LVal.call rfl rfl (by rw [hP]; exact Try.func11) rfl (by decide) (cb)) ?_ | refine LOps.whenC (LVal.call rfl rfl (by rw [hP]; exact Try.func11) rfl (by decide) (cc)) ?_ | refine LOps.whenC (LVal.call rfl rfl (by rw [hP]; exact Try.func11) rfl (by decide) (cd)) ?_ | refine LOps.whenC (LVal.call rfl rfl (by rw [hP]; exact Try.func19) rfl (by decide) (cf)) ?_ | refine LOps.whenC (LVal.call rfl rfl (by rw [hP]; exact Try.func19) rfl (by decide) (cg)) ?_ | refine LOps.whenC (LVal.call rfl rfl (by rw [hP]; exact Try.func17) rfl (by decide) (ce)) ?_ | refine LOps.whenC (LVal.call rfl rfl (by rw [hP]; exact Try.func17) rfl (by decide) (ch)) ?_ | refine LOps.whenC (LVal.call rfl rfl (by rw [hP]; exact Try.func13) rfl (by decide) (ci)) ?_ | refine LOps.whenC (LVal.call rfl rfl (by rw [hP]; exact Try.func10) rfl (by decide) (cw)) ?_ | refine LOps.valA ?_ | refine LOps.outA ?_ | refine LOps.whenA ?_ | refine LOps.pickA ?_ | refine LOps.storeA ?_)
  exact ⟨_, LRes.one rfl, isTrue _ (by first | (simp [hi]; done) | (simp [hi]; decide) | (rw [List.length_map, hi]; decide +kernel))⟩
end Go.Proofs.Ytandbjhedkgldaa.LF

namespace Go.Proofs.Ytandbjhedkgldaa
open Go.RowKit LF
theorem linearKnown_walk (W : World) : Calls Try.prog 7 #[] W fun e W' => e = .returned (.bool true) ∧ Below W.heap.size W W' :=
  law_calls (fun G S h => known8_L h S) .nil
end Go.Proofs.Ytandbjhedkgldaa
