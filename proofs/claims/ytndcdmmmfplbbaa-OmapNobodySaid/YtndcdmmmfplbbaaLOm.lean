/- The walk of the law 'OmapNobody'. -/
import Derived.Test.YtndcdmmmfplbbaaLOl
set_option linter.unusedVariables false
set_option linter.unusedSimpArgs false
namespace Go.Proofs.Ytndcdmmmfplbbaa.LF
open Go.RowKit
set_option linter.unusedVariables false

abbrev nilP : TV := .one (.v (.pointer none))
theorem ans_eq (a : Ans) : eqAns a a = true := by rw [eqAns_iff]; simp
/-- What a nil map answers: what an empty one does. -/
theorem posP_nil (k : ByteArray) : posP [] k = 0 := rfl
theorem hasP_nil (k : ByteArray) : hasP [] k = false := rfl
theorem oldP_nil (k : ByteArray) : oldP [] k = noBytes := rfl
theorem nextP_nil (k : ByteArray) (a : Bool) : nextP [] k a = none := by simp [nextP]

set_option maxHeartbeats 16000000 in
set_option maxRecDepth 10000 in
theorem doN_F {G : Ctx} (hP : G.P = Try.prog) (o : OpV) : LFun G 16 [nilP, .agg (opL o)] (.agg (ansL (doA [] o))) := LFun.of fun S => by
  have hD : TabOK G.P D := by rw [hP]; exact hD0
  have c0 := refused_F hP o
  have c1 := getN_F hP o.key
  have c2 := setN_F hP o.key o.val
  have c3 := dropN_F hP o.key
  have c4 := findN_F hP o.key
  have hml : (o.writes.map wrL).length = o.writes.length := List.length_map ..
  refine LCalls.enter (fn := Try.f16) (by rw [hP]; exact Try.func16) rfl rfl ?_
  repeat (first | refine LOps.nil ?_ | refine andThen_normal ?_ | refine andThen_exit ?_ | refine andThen_ret ?_ | refine inBlock_normal ?_ | refine inBlock_ret ?_ | refine inBlock_here ?_ | refine inBlock_out rfl ?_ | refine LWp.seq ?_ | refine LWp.region ?_ | refine LWp.block ?_ | refine LWp.exit ?_ | refine LWp.ret ?_ | refine LWp.skip ?_ | refine LOps.valA ?_ | refine LOps.outA ?_ | refine LOps.whenA ?_ | refine LOps.pickA ?_ | refine LOps.storeA ?_)
  have hle := LS.le.refl S
  refine LOps.do (LDo.box rfl rfl) rfl rfl rfl ?_
  rintro _ _ ⟨b3, hb3, rfl, rfl⟩
  have s3 := hle.none hb3
  refine LOps.gen (fun S' => S.le S' ∧ S'.box b3 = some (opL o)) ⟨hle.newBox hb3 _, box_new _ _ _⟩ ?_
  clear hle hb3 
  rintro S3 ⟨hle, k3⟩
  skip
  refine LOps.do (LDo.alloc hD rfl rfl rfl) rfl rfl rfl ?_
  rintro _ _ ⟨b4, hb4, rfl, rfl⟩
  have n3_4 := fresh_ne hb4 k3
  have m4_3 := n3_4.symm
  have s4 := hle.none hb4
  refine LOps.gen (fun S' => S.le S' ∧ S'.box b3 = some (opL o) ∧ S'.box b4 = some (ansL noAns)) ⟨hle.newBox hb4 _, (box_new_ne _ _ n3_4).trans k3, box_new _ _ _⟩ ?_
  clear hle hb4 k3
  rintro S4 ⟨hle, k3, k4⟩
  repeat (first | refine LOps.valH (LVal.load hD rfl rfl k3 rfl rfl) ?_ | refine LOps.nil ?_ | refine andThen_normal ?_ | refine andThen_exit ?_ | refine andThen_ret ?_ | refine inBlock_normal ?_ | refine inBlock_ret ?_ | refine inBlock_here ?_ | refine inBlock_out rfl ?_ | refine LWp.seq ?_ | refine LWp.region ?_ | refine LWp.block ?_ | refine LWp.exit ?_ | refine LWp.ret ?_ | refine LWp.skip ?_ | refine LOps.val (LVal.call rfl rfl (by rw [hP]; exact Try.func18) rfl (by decide) (c0)) rfl rfl rfl ?_ | refine LOps.whenC (LVal.call rfl rfl (by rw [hP]; exact Try.func18) rfl (by decide) (c0)) ?_ | refine LOps.valA ?_ | refine LOps.outA ?_ | refine LOps.whenA ?_ | refine LOps.pickA ?_ | refine LOps.storeA ?_)
  refine LWp.cond rfl (fun h => ?_) (fun h => ?_)
  · have h : (refusedO o != 0) = true := h
    have hr : ¬ refusedO o = 0 := by simpa using h
    repeat (first | refine LOps.nil ?_ | refine andThen_normal ?_ | refine andThen_exit ?_ | refine andThen_ret ?_ | refine inBlock_normal ?_ | refine inBlock_ret ?_ | refine inBlock_here ?_ | refine inBlock_out rfl ?_ | refine LWp.seq ?_ | refine LWp.region ?_ | refine LWp.block ?_ | refine LWp.exit ?_ | refine LWp.ret ?_ | refine LWp.skip ?_ | refine LOps.valA ?_ | refine LOps.outA ?_ | refine LOps.whenA ?_ | refine LOps.pickA ?_)
    refine LOps.storeA (b := b4) (off := 0) (cs := ansL noAns) (l := ansL ⟨refusedO o, false, noBytes, noBytes⟩) ?_
    refine LOps.gen (fun S' => S.le S' ∧ S'.box b3 = some (opL o) ∧ S'.box b4 = some (ansL ⟨refusedO o, false, noBytes, noBytes⟩)) ⟨hle.setBox s4 _, (box_set_ne _ _ n3_4).trans k3, (box_set _ _ _).trans (congrArg some (rfl))⟩ ?_
    clear hle k3 k4
    rintro Ss ⟨hle, k3, k4⟩
    repeat (first | refine LOps.nil ?_ | refine andThen_normal ?_ | refine andThen_exit ?_ | refine andThen_ret ?_ | refine inBlock_normal ?_ | refine inBlock_ret ?_ | refine inBlock_here ?_ | refine inBlock_out rfl ?_ | refine LWp.seq ?_ | refine LWp.region ?_ | refine LWp.block ?_ | refine LWp.exit ?_ | refine LWp.ret ?_ | refine LWp.skip ?_ | refine LOps.valA ?_ | refine LOps.outA ?_ | refine LOps.whenA ?_ | refine LOps.pickA ?_ | refine LOps.storeA ?_)
    exact ⟨_, ansRes hP rfl rfl k4, by rw [doA, if_neg hr], hle⟩
  have h : (refusedO o != 0) = false := h
  have hr : refusedO o = 0 := by simpa using h
  clear h
  have hk := refused_kind hr
  have hdoA : doA [] o = if o.kind = 1 ∨ o.kind = 2 ∨ o.kind = 3 then ⟨0, hasP [] o.key, noBytes, oldP [] o.key⟩
    else if o.kind = 4 then ⟨0, doneO [] o, noBytes, oldP [] o.key⟩
    else if o.kind = 5 then pairA (nextP [] o.key o.after)
    else noAns := by rw [doA, if_pos hr]
  by_cases h1 : o.kind = 1
  · skip
    repeat (first | refine LOps.valH (LVal.call rfl rfl (by rw [hP]; exact Try.func29) rfl (by decide) (c1)) ?_ | refine LWp.condT rfl ?_ | refine LOps.valH (LVal.to (LVal.binOp hD rfl rfl rfl rfl) (r' := .one (.v (.bool true))) (congrArg (fun b => TV.one (.v (.bool b))) (by first | exact decide_eq_true (by omega) | (rw [beq_iff_eq]; omega) | (rw [bne_iff_ne]; omega)))) ?_ | refine LOps.valH (LVal.to (LVal.binOp hD rfl rfl rfl rfl) (r' := .one (.v (.bool false))) (congrArg (fun b => TV.one (.v (.bool b))) (by first | exact decide_eq_false (by omega) | (rw [beq_eq_false_iff_ne]; omega) | (rw [bne_eq_false_iff_eq]; omega)))) ?_ | refine LOps.valW ?_ | refine LOps.nil ?_ | refine andThen_normal ?_ | refine andThen_exit ?_ | refine andThen_ret ?_ | refine inBlock_normal ?_ | refine inBlock_ret ?_ | refine inBlock_here ?_ | refine inBlock_out rfl ?_ | refine LWp.seq ?_ | refine LWp.region ?_ | refine LWp.block ?_ | refine LWp.exit ?_ | refine LWp.ret ?_ | refine LWp.skip ?_ | refine LOps.val (LVal.call rfl rfl (by rw [hP]; exact Try.func29) rfl (by decide) (c1)) rfl rfl rfl ?_ | refine LOps.whenC (LVal.call rfl rfl (by rw [hP]; exact Try.func29) rfl (by decide) (c1)) ?_ | refine LOps.valA ?_ | refine LOps.outA ?_ | refine LOps.whenA ?_ | refine LOps.pickA ?_)
    refine LOps.storeA (b := b4) (off := 0) (cs := ansL noAns) (l := ansL ⟨0, false, noBytes, noBytes⟩) ?_
    refine LOps.gen (fun S' => S.le S' ∧ S'.box b3 = some (opL o) ∧ S'.box b4 = some (ansL ⟨0, false, noBytes, noBytes⟩)) ⟨hle.setBox s4 _, (box_set_ne _ _ n3_4).trans k3, (box_set _ _ _).trans (congrArg some (rfl))⟩ ?_
    clear hle k3 k4
    rintro Ss ⟨hle, k3, k4⟩
    repeat (first | refine LOps.nil ?_ | refine andThen_normal ?_ | refine andThen_exit ?_ | refine andThen_ret ?_ | refine inBlock_normal ?_ | refine inBlock_ret ?_ | refine inBlock_here ?_ | refine inBlock_out rfl ?_ | refine LWp.seq ?_ | refine LWp.region ?_ | refine LWp.block ?_ | refine LWp.exit ?_ | refine LWp.ret ?_ | refine LWp.skip ?_ | refine LOps.valA ?_ | refine LOps.outA ?_ | refine LOps.whenA ?_ | refine LOps.pickA ?_ | refine LOps.storeA ?_)
    exact ⟨_, ansRes hP rfl rfl k4, by rw [hdoA, if_pos (by omega)]; rfl, hle⟩
  by_cases h2 : o.kind = 2
  · skip
    repeat (first | refine LOps.valH (LVal.call rfl rfl (by rw [hP]; exact Try.func29) rfl (by decide) (c1)) ?_ | refine LOps.valH (LVal.call rfl rfl (by rw [hP]; exact Try.func25) rfl (by decide) (c2)) ?_ | refine LWp.condT rfl ?_ | refine LWp.condF rfl ?_ | refine LOps.valH (LVal.to (LVal.binOp hD rfl rfl rfl rfl) (r' := .one (.v (.bool true))) (congrArg (fun b => TV.one (.v (.bool b))) (by first | exact decide_eq_true (by omega) | (rw [beq_iff_eq]; omega) | (rw [bne_iff_ne]; omega)))) ?_ | refine LOps.valH (LVal.to (LVal.binOp hD rfl rfl rfl rfl) (r' := .one (.v (.bool false))) (congrArg (fun b => TV.one (.v (.bool b))) (by first | exact decide_eq_false (by omega) | (rw [beq_eq_false_iff_ne]; omega) | (rw [bne_eq_false_iff_eq]; omega)))) ?_ | refine LOps.valW ?_ | refine LOps.nil ?_ | refine andThen_normal ?_ | refine andThen_exit ?_ | refine andThen_ret ?_ | refine inBlock_normal ?_ | refine inBlock_ret ?_ | refine inBlock_here ?_ | refine inBlock_out rfl ?_ | refine LWp.seq ?_ | refine LWp.region ?_ | refine LWp.block ?_ | refine LWp.exit ?_ | refine LWp.ret ?_ | refine LWp.skip ?_ | refine LOps.val (LVal.call rfl rfl (by rw [hP]; exact Try.func29) rfl (by decide) (c1)) rfl rfl rfl ?_ | refine LOps.val (LVal.call rfl rfl (by rw [hP]; exact Try.func25) rfl (by decide) (c2)) rfl rfl rfl ?_ | refine LOps.whenC (LVal.call rfl rfl (by rw [hP]; exact Try.func29) rfl (by decide) (c1)) ?_ | refine LOps.whenC (LVal.call rfl rfl (by rw [hP]; exact Try.func25) rfl (by decide) (c2)) ?_ | refine LOps.valA ?_ | refine LOps.outA ?_ | refine LOps.whenA ?_ | refine LOps.pickA ?_)
    refine LOps.storeA (b := b4) (off := 0) (cs := ansL noAns) (l := ansL ⟨0, false, noBytes, noBytes⟩) ?_
    refine LOps.gen (fun S' => S.le S' ∧ S'.box b3 = some (opL o) ∧ S'.box b4 = some (ansL ⟨0, false, noBytes, noBytes⟩)) ⟨hle.setBox s4 _, (box_set_ne _ _ n3_4).trans k3, (box_set _ _ _).trans (congrArg some (rfl))⟩ ?_
    clear hle k3 k4
    rintro Ss ⟨hle, k3, k4⟩
    repeat (first | refine LOps.nil ?_ | refine andThen_normal ?_ | refine andThen_exit ?_ | refine andThen_ret ?_ | refine inBlock_normal ?_ | refine inBlock_ret ?_ | refine inBlock_here ?_ | refine inBlock_out rfl ?_ | refine LWp.seq ?_ | refine LWp.region ?_ | refine LWp.block ?_ | refine LWp.exit ?_ | refine LWp.ret ?_ | refine LWp.skip ?_ | refine LOps.valA ?_ | refine LOps.outA ?_ | refine LOps.whenA ?_ | refine LOps.pickA ?_ | refine LOps.storeA ?_)
    exact ⟨_, ansRes hP rfl rfl k4, by rw [hdoA, if_pos (by omega)]; rfl, hle⟩
  by_cases h3 : o.kind = 3
  · skip
    repeat (first | refine LOps.valH (LVal.call rfl rfl (by rw [hP]; exact Try.func29) rfl (by decide) (c1)) ?_ | refine LOps.valH (LVal.call rfl rfl (by rw [hP]; exact Try.func30) rfl (by decide) (c3)) ?_ | refine LWp.condT rfl ?_ | refine LWp.condF rfl ?_ | refine LOps.valH (LVal.to (LVal.binOp hD rfl rfl rfl rfl) (r' := .one (.v (.bool true))) (congrArg (fun b => TV.one (.v (.bool b))) (by first | exact decide_eq_true (by omega) | (rw [beq_iff_eq]; omega) | (rw [bne_iff_ne]; omega)))) ?_ | refine LOps.valH (LVal.to (LVal.binOp hD rfl rfl rfl rfl) (r' := .one (.v (.bool false))) (congrArg (fun b => TV.one (.v (.bool b))) (by first | exact decide_eq_false (by omega) | (rw [beq_eq_false_iff_ne]; omega) | (rw [bne_eq_false_iff_eq]; omega)))) ?_ | refine LOps.valW ?_ | refine LOps.nil ?_ | refine andThen_normal ?_ | refine andThen_exit ?_ | refine andThen_ret ?_ | refine inBlock_normal ?_ | refine inBlock_ret ?_ | refine inBlock_here ?_ | refine inBlock_out rfl ?_ | refine LWp.seq ?_ | refine LWp.region ?_ | refine LWp.block ?_ | refine LWp.exit ?_ | refine LWp.ret ?_ | refine LWp.skip ?_ | refine LOps.val (LVal.call rfl rfl (by rw [hP]; exact Try.func29) rfl (by decide) (c1)) rfl rfl rfl ?_ | refine LOps.val (LVal.call rfl rfl (by rw [hP]; exact Try.func30) rfl (by decide) (c3)) rfl rfl rfl ?_ | refine LOps.whenC (LVal.call rfl rfl (by rw [hP]; exact Try.func29) rfl (by decide) (c1)) ?_ | refine LOps.whenC (LVal.call rfl rfl (by rw [hP]; exact Try.func30) rfl (by decide) (c3)) ?_ | refine LOps.valA ?_ | refine LOps.outA ?_ | refine LOps.whenA ?_ | refine LOps.pickA ?_)
    refine LOps.storeA (b := b4) (off := 0) (cs := ansL noAns) (l := ansL ⟨0, false, noBytes, noBytes⟩) ?_
    refine LOps.gen (fun S' => S.le S' ∧ S'.box b3 = some (opL o) ∧ S'.box b4 = some (ansL ⟨0, false, noBytes, noBytes⟩)) ⟨hle.setBox s4 _, (box_set_ne _ _ n3_4).trans k3, (box_set _ _ _).trans (congrArg some (rfl))⟩ ?_
    clear hle k3 k4
    rintro Ss ⟨hle, k3, k4⟩
    repeat (first | refine LOps.nil ?_ | refine andThen_normal ?_ | refine andThen_exit ?_ | refine andThen_ret ?_ | refine inBlock_normal ?_ | refine inBlock_ret ?_ | refine inBlock_here ?_ | refine inBlock_out rfl ?_ | refine LWp.seq ?_ | refine LWp.region ?_ | refine LWp.block ?_ | refine LWp.exit ?_ | refine LWp.ret ?_ | refine LWp.skip ?_ | refine LOps.valA ?_ | refine LOps.outA ?_ | refine LOps.whenA ?_ | refine LOps.pickA ?_ | refine LOps.storeA ?_)
    exact ⟨_, ansRes hP rfl rfl k4, by rw [hdoA, if_pos (by omega)]; rfl, hle⟩
  by_cases h4 : o.kind = 4
  · skip
    repeat (first | refine LOps.valH (LVal.call rfl rfl (by rw [hP]; exact Try.func29) rfl (by decide) (c1)) ?_ | refine LWp.condT rfl ?_ | refine LWp.condF rfl ?_ | refine LOps.valH (LVal.to (LVal.binOp hD rfl rfl rfl rfl) (r' := .one (.v (.bool true))) (congrArg (fun b => TV.one (.v (.bool b))) (by first | exact decide_eq_true (by omega) | (rw [beq_iff_eq]; omega) | (rw [bne_iff_ne]; omega)))) ?_ | refine LOps.valH (LVal.to (LVal.binOp hD rfl rfl rfl rfl) (r' := .one (.v (.bool false))) (congrArg (fun b => TV.one (.v (.bool b))) (by first | exact decide_eq_false (by omega) | (rw [beq_eq_false_iff_ne]; omega) | (rw [bne_eq_false_iff_eq]; omega)))) ?_ | refine LOps.valW ?_ | refine LOps.nil ?_ | refine andThen_normal ?_ | refine andThen_exit ?_ | refine andThen_ret ?_ | refine inBlock_normal ?_ | refine inBlock_ret ?_ | refine inBlock_here ?_ | refine inBlock_out rfl ?_ | refine LWp.seq ?_ | refine LWp.region ?_ | refine LWp.block ?_ | refine LWp.exit ?_ | refine LWp.ret ?_ | refine LWp.skip ?_ | refine LOps.val (LVal.call rfl rfl (by rw [hP]; exact Try.func29) rfl (by decide) (c1)) rfl rfl rfl ?_ | refine LOps.whenC (LVal.call rfl rfl (by rw [hP]; exact Try.func29) rfl (by decide) (c1)) ?_ | refine LOps.valA ?_ | refine LOps.outA ?_ | refine LOps.whenA ?_ | refine LOps.pickA ?_)
    refine LWp.cond rfl (fun h => ?_) (fun h => ?_)
    · have h : doneO [] o = true := h
      repeat (first | refine LOps.nil ?_ | refine andThen_normal ?_ | refine andThen_exit ?_ | refine andThen_ret ?_ | refine inBlock_normal ?_ | refine inBlock_ret ?_ | refine inBlock_here ?_ | refine inBlock_out rfl ?_ | refine LWp.seq ?_ | refine LWp.region ?_ | refine LWp.block ?_ | refine LWp.exit ?_ | refine LWp.ret ?_ | refine LWp.skip ?_ | refine LOps.val (LVal.call rfl rfl (by rw [hP]; exact Try.func25) rfl (by decide) (c2)) rfl rfl rfl ?_ | refine LOps.whenC (LVal.call rfl rfl (by rw [hP]; exact Try.func25) rfl (by decide) (c2)) ?_ | refine LOps.valA ?_ | refine LOps.outA ?_ | refine LOps.whenA ?_ | refine LOps.pickA ?_)
      refine LOps.storeA (b := b4) (off := 0) (cs := ansL noAns) (l := ansL ⟨0, doneO [] o, noBytes, noBytes⟩) ?_
      refine LOps.gen (fun S' => S.le S' ∧ S'.box b3 = some (opL o) ∧ S'.box b4 = some (ansL ⟨0, doneO [] o, noBytes, noBytes⟩)) ⟨hle.setBox s4 _, (box_set_ne _ _ n3_4).trans k3, (box_set _ _ _).trans (congrArg some (rfl))⟩ ?_
      clear hle k3 k4
      rintro Ss ⟨hle, k3, k4⟩
      repeat (first | refine LOps.nil ?_ | refine andThen_normal ?_ | refine andThen_exit ?_ | refine andThen_ret ?_ | refine inBlock_normal ?_ | refine inBlock_ret ?_ | refine inBlock_here ?_ | refine inBlock_out rfl ?_ | refine LWp.seq ?_ | refine LWp.region ?_ | refine LWp.block ?_ | refine LWp.exit ?_ | refine LWp.ret ?_ | refine LWp.skip ?_ | refine LOps.valA ?_ | refine LOps.outA ?_ | refine LOps.whenA ?_ | refine LOps.pickA ?_ | refine LOps.storeA ?_)
      exact ⟨_, ansRes hP rfl rfl k4, by rw [hdoA, if_neg (by omega), if_pos h4]; rfl, hle⟩
    · have h : doneO [] o = false := h
      repeat (first | refine LOps.nil ?_ | refine andThen_normal ?_ | refine andThen_exit ?_ | refine andThen_ret ?_ | refine inBlock_normal ?_ | refine inBlock_ret ?_ | refine inBlock_here ?_ | refine inBlock_out rfl ?_ | refine LWp.seq ?_ | refine LWp.region ?_ | refine LWp.block ?_ | refine LWp.exit ?_ | refine LWp.ret ?_ | refine LWp.skip ?_ | refine LOps.valA ?_ | refine LOps.outA ?_ | refine LOps.whenA ?_ | refine LOps.pickA ?_)
      refine LOps.storeA (b := b4) (off := 0) (cs := ansL noAns) (l := ansL ⟨0, doneO [] o, noBytes, noBytes⟩) ?_
      refine LOps.gen (fun S' => S.le S' ∧ S'.box b3 = some (opL o) ∧ S'.box b4 = some (ansL ⟨0, doneO [] o, noBytes, noBytes⟩)) ⟨hle.setBox s4 _, (box_set_ne _ _ n3_4).trans k3, (box_set _ _ _).trans (congrArg some (rfl))⟩ ?_
      clear hle k3 k4
      rintro Ss ⟨hle, k3, k4⟩
      repeat (first | refine LOps.nil ?_ | refine andThen_normal ?_ | refine andThen_exit ?_ | refine andThen_ret ?_ | refine inBlock_normal ?_ | refine inBlock_ret ?_ | refine inBlock_here ?_ | refine inBlock_out rfl ?_ | refine LWp.seq ?_ | refine LWp.region ?_ | refine LWp.block ?_ | refine LWp.exit ?_ | refine LWp.ret ?_ | refine LWp.skip ?_ | refine LOps.valA ?_ | refine LOps.outA ?_ | refine LOps.whenA ?_ | refine LOps.pickA ?_ | refine LOps.storeA ?_)
      exact ⟨_, ansRes hP rfl rfl k4, by rw [hdoA, if_neg (by omega), if_pos h4]; rfl, hle⟩
  by_cases h5 : o.kind = 5
  · skip
    repeat (first | refine LOps.valH (LVal.call rfl rfl (by rw [hP]; exact Try.func29) rfl (by decide) (c1)) ?_ | refine LOps.valH (LVal.call rfl rfl (by rw [hP]; exact Try.func31) rfl (by decide) (c4)) ?_ | refine LWp.condT rfl ?_ | refine LWp.condF rfl ?_ | refine LOps.outA ?_ | refine LOps.valH (LVal.to (LVal.binOp hD rfl rfl rfl rfl) (r' := .one (.v (.bool true))) (congrArg (fun b => TV.one (.v (.bool b))) (by first | exact decide_eq_true (by omega) | (rw [beq_iff_eq]; omega) | (rw [bne_iff_ne]; omega)))) ?_ | refine LOps.valH (LVal.to (LVal.binOp hD rfl rfl rfl rfl) (r' := .one (.v (.bool false))) (congrArg (fun b => TV.one (.v (.bool b))) (by first | exact decide_eq_false (by omega) | (rw [beq_eq_false_iff_ne]; omega) | (rw [bne_eq_false_iff_eq]; omega)))) ?_ | refine LOps.valW ?_ | refine LOps.nil ?_ | refine andThen_normal ?_ | refine andThen_exit ?_ | refine andThen_ret ?_ | refine inBlock_normal ?_ | refine inBlock_ret ?_ | refine inBlock_here ?_ | refine inBlock_out rfl ?_ | refine LWp.seq ?_ | refine LWp.region ?_ | refine LWp.block ?_ | refine LWp.exit ?_ | refine LWp.ret ?_ | refine LWp.skip ?_ | refine LOps.val (LVal.call rfl rfl (by rw [hP]; exact Try.func29) rfl (by decide) (c1)) rfl rfl rfl ?_ | refine LOps.val (LVal.call rfl rfl (by rw [hP]; exact Try.func31) rfl (by decide) (c4)) rfl rfl rfl ?_ | refine LOps.whenC (LVal.call rfl rfl (by rw [hP]; exact Try.func29) rfl (by decide) (c1)) ?_ | refine LOps.whenC (LVal.call rfl rfl (by rw [hP]; exact Try.func31) rfl (by decide) (c4)) ?_ | refine LOps.valA ?_ | refine LOps.outA ?_ | refine LOps.whenA ?_ | refine LOps.pickA ?_)
    refine LOps.storeA (b := b4) (off := 0) (cs := ansL noAns) (l := ansL noAns) ?_
    refine LOps.gen (fun S' => S.le S' ∧ S'.box b3 = some (opL o) ∧ S'.box b4 = some (ansL noAns)) ⟨hle.setBox s4 _, (box_set_ne _ _ n3_4).trans k3, (box_set _ _ _).trans (congrArg some (rfl))⟩ ?_
    clear hle k3 k4
    rintro Ss ⟨hle, k3, k4⟩
    repeat (first | refine LOps.nil ?_ | refine andThen_normal ?_ | refine andThen_exit ?_ | refine andThen_ret ?_ | refine inBlock_normal ?_ | refine inBlock_ret ?_ | refine inBlock_here ?_ | refine inBlock_out rfl ?_ | refine LWp.seq ?_ | refine LWp.region ?_ | refine LWp.block ?_ | refine LWp.exit ?_ | refine LWp.ret ?_ | refine LWp.skip ?_ | refine LOps.valA ?_ | refine LOps.outA ?_ | refine LOps.whenA ?_ | refine LOps.pickA ?_ | refine LOps.storeA ?_)
    exact ⟨_, ansRes hP rfl rfl k4, by rw [hdoA, if_neg (by omega), if_neg h4, if_pos h5, nextP_nil]; rfl, hle⟩
  have h6 : o.kind = 6 := by omega
  have hw8 := refused_long hr h6
  repeat (first | refine LOps.valH (LVal.call rfl rfl (by rw [hP]; exact Try.func29) rfl (by decide) (c1)) ?_ | refine LWp.condF rfl ?_ | refine LOps.valH (LVal.to (LVal.binOp hD rfl rfl rfl rfl) (r' := .one (.v (.bool true))) (congrArg (fun b => TV.one (.v (.bool b))) (by first | exact decide_eq_true (by omega) | (rw [beq_iff_eq]; omega) | (rw [bne_iff_ne]; omega)))) ?_ | refine LOps.valH (LVal.to (LVal.binOp hD rfl rfl rfl rfl) (r' := .one (.v (.bool false))) (congrArg (fun b => TV.one (.v (.bool b))) (by first | exact decide_eq_false (by omega) | (rw [beq_eq_false_iff_ne]; omega) | (rw [bne_eq_false_iff_eq]; omega)))) ?_ | refine LOps.valW ?_ | refine LOps.nil ?_ | refine andThen_normal ?_ | refine andThen_exit ?_ | refine andThen_ret ?_ | refine inBlock_normal ?_ | refine inBlock_ret ?_ | refine inBlock_here ?_ | refine inBlock_out rfl ?_ | refine LWp.seq ?_ | refine LWp.region ?_ | refine LWp.block ?_ | refine LWp.exit ?_ | refine LWp.ret ?_ | refine LWp.skip ?_ | refine LOps.val (LVal.call rfl rfl (by rw [hP]; exact Try.func29) rfl (by decide) (c1)) rfl rfl rfl ?_ | refine LOps.whenC (LVal.call rfl rfl (by rw [hP]; exact Try.func29) rfl (by decide) (c1)) ?_ | refine LOps.valA ?_ | refine LOps.outA ?_ | refine LOps.whenA ?_ | refine LOps.pickA ?_)
  rw [if_neg (by omega), if_neg h4, if_neg h5] at hdoA
  refine LWp.loop (fun k T S' => ∃ (T' : Nat → TV) (j : Nat), j ≤ o.writes.length ∧ k = o.writes.length - j ∧ S.le S' ∧ S'.box b4 = some (ansL noAns) ∧
    T = over T' [(0, nilP), (4, ptr b4), (125, .one (.sl .sh (o.writes.map wrL))), (126, .one (iv (o.writes.length : Nat))), (127, .one (iv (j : Nat)))]) o.writes.length ?_ ?_
  · exact ⟨_, 0, by omega, rfl, hle, k4, holds.over ⟨rfl, rfl, rfl, by rw [← hml]; rfl, rfl, trivial⟩⟩
  clear hle k3 k4
  rintro k T S8 ⟨T', j, hj, rfl, hle, k4, rfl⟩
  repeat (first | refine LOps.nil ?_ | refine andThen_normal ?_ | refine andThen_exit ?_ | refine andThen_ret ?_ | refine inBlock_normal ?_ | refine inBlock_ret ?_ | refine inBlock_here ?_ | refine inBlock_out rfl ?_ | refine LWp.seq ?_ | refine LWp.region ?_ | refine LWp.block ?_ | refine LWp.exit ?_ | refine LWp.ret ?_ | refine LWp.skip ?_ | refine LOps.valA ?_ | refine LOps.outA ?_ | refine LOps.whenA ?_ | refine LOps.pickA ?_ | refine LOps.storeA ?_)
  refine LWp.cond rfl (fun h => ?_) (fun h => ?_)
  · have hlt : j < o.writes.length := by simp at h; omega
    have c5 := setN_F hP o.writes[j].key o.writes[j].val
    have c6 := dropN_F hP o.writes[j].key
    repeat (first | refine LOps.nil ?_ | refine andThen_normal ?_ | refine andThen_exit ?_ | refine andThen_ret ?_ | refine inBlock_normal ?_ | refine inBlock_ret ?_ | refine inBlock_here ?_ | refine inBlock_out rfl ?_ | refine LWp.seq ?_ | refine LWp.region ?_ | refine LWp.block ?_ | refine LWp.exit ?_ | refine LWp.ret ?_ | refine LWp.skip ?_ | refine LOps.valA ?_ | refine LOps.outA ?_ | refine LOps.whenA ?_ | refine LOps.pickA ?_)
    skip
    refine LOps.do (LDo.alloc hD rfl rfl rfl) rfl rfl rfl ?_
    rintro _ _ ⟨b12, hb12, rfl, rfl⟩
    have n4_12 := fresh_ne hb12 k4
    have m12_4 := n4_12.symm
    have s12 := hle.none hb12
    refine LOps.gen (fun S' => S.le S' ∧ S'.box b4 = some (ansL noAns) ∧ S'.box b12 = some ([sv noBytes, sv noBytes, bv false])) ⟨hle.newBox hb12 _, (box_new_ne _ _ n4_12).trans k4, box_new _ _ _⟩ ?_
    clear hle hb12 k4
    rintro S12 ⟨hle, k4, k12⟩
    repeat (first | refine LOps.nil ?_ | refine andThen_normal ?_ | refine andThen_exit ?_ | refine andThen_ret ?_ | refine inBlock_normal ?_ | refine inBlock_ret ?_ | refine inBlock_here ?_ | refine inBlock_out rfl ?_ | refine LWp.seq ?_ | refine LWp.region ?_ | refine LWp.block ?_ | refine LWp.exit ?_ | refine LWp.ret ?_ | refine LWp.skip ?_ | refine LOps.valA ?_ | refine LOps.outA ?_ | refine LOps.whenA ?_ | refine LOps.pickA ?_)
    refine LOps.storeA (b := b12) (off := 0) (cs := [sv noBytes, sv noBytes, bv false]) (l := wrL o.writes[j]) ?_
    refine LOps.gen (fun S' => S.le S' ∧ S'.box b4 = some (ansL noAns) ∧ S'.box b12 = some (wrL o.writes[j])) ⟨hle.setBox s12 _, (box_set_ne _ _ n4_12).trans k4, (box_set _ _ _).trans (congrArg some (rfl))⟩ ?_
    clear hle k4 k12
    rintro Ss ⟨hle, k4, k12⟩
    repeat (first | refine LOps.nil ?_ | refine andThen_normal ?_ | refine andThen_exit ?_ | refine andThen_ret ?_ | refine inBlock_normal ?_ | refine inBlock_ret ?_ | refine inBlock_here ?_ | refine inBlock_out rfl ?_ | refine LWp.seq ?_ | refine LWp.region ?_ | refine LWp.block ?_ | refine LWp.exit ?_ | refine LWp.ret ?_ | refine LWp.skip ?_ | refine LOps.valA ?_ | refine LOps.outA ?_ | refine LOps.whenA ?_ | refine LOps.pickA ?_)
    refine LWp.cond rfl (fun hg => ?_) (fun hg => ?_)
    · repeat (first | refine LOps.nil ?_ | refine andThen_normal ?_ | refine andThen_exit ?_ | refine andThen_ret ?_ | refine inBlock_normal ?_ | refine inBlock_ret ?_ | refine inBlock_here ?_ | refine inBlock_out rfl ?_ | refine LWp.seq ?_ | refine LWp.region ?_ | refine LWp.block ?_ | refine LWp.exit ?_ | refine LWp.ret ?_ | refine LWp.skip ?_ | refine LOps.val (LVal.call rfl rfl (by rw [hP]; exact Try.func30) rfl (by decide) (c6)) rfl rfl rfl ?_ | refine LOps.whenC (LVal.call rfl rfl (by rw [hP]; exact Try.func30) rfl (by decide) (c6)) ?_ | refine LOps.valA ?_ | refine LOps.outA ?_ | refine LOps.whenA ?_ | refine LOps.pickA ?_ | refine LOps.storeA ?_)
      exact ⟨o.writes.length - (j + 1), by omega, _, j + 1, by omega, rfl, hle, k4, holds.over ⟨rfl, rfl, rfl, rfl, rfl, trivial⟩⟩
    · repeat (first | refine LOps.nil ?_ | refine andThen_normal ?_ | refine andThen_exit ?_ | refine andThen_ret ?_ | refine inBlock_normal ?_ | refine inBlock_ret ?_ | refine inBlock_here ?_ | refine inBlock_out rfl ?_ | refine LWp.seq ?_ | refine LWp.region ?_ | refine LWp.block ?_ | refine LWp.exit ?_ | refine LWp.ret ?_ | refine LWp.skip ?_ | refine LOps.val (LVal.call rfl rfl (by rw [hP]; exact Try.func25) rfl (by decide) (c5)) rfl rfl rfl ?_ | refine LOps.whenC (LVal.call rfl rfl (by rw [hP]; exact Try.func25) rfl (by decide) (c5)) ?_ | refine LOps.valA ?_ | refine LOps.outA ?_ | refine LOps.whenA ?_ | refine LOps.pickA ?_ | refine LOps.storeA ?_)
      exact ⟨o.writes.length - (j + 1), by omega, _, j + 1, by omega, rfl, hle, k4, holds.over ⟨rfl, rfl, rfl, rfl, rfl, trivial⟩⟩
  · skip
    repeat (first | refine LOps.nil ?_ | refine andThen_normal ?_ | refine andThen_exit ?_ | refine andThen_ret ?_ | refine inBlock_normal ?_ | refine inBlock_ret ?_ | refine inBlock_here ?_ | refine inBlock_out rfl ?_ | refine LWp.seq ?_ | refine LWp.region ?_ | refine LWp.block ?_ | refine LWp.exit ?_ | refine LWp.ret ?_ | refine LWp.skip ?_ | refine LOps.valA ?_ | refine LOps.outA ?_ | refine LOps.whenA ?_ | refine LOps.pickA ?_)
    refine LOps.storeA (b := b4) (off := 0) (cs := ansL noAns) (l := ansL noAns) ?_
    refine LOps.gen (fun S' => S.le S' ∧ S'.box b4 = some (ansL noAns)) ⟨hle.setBox s4 _, (box_set _ _ _).trans (congrArg some (rfl))⟩ ?_
    clear hle k4
    rintro Ss ⟨hle, k4⟩
    repeat (first | refine LOps.nil ?_ | refine andThen_normal ?_ | refine andThen_exit ?_ | refine andThen_ret ?_ | refine inBlock_normal ?_ | refine inBlock_ret ?_ | refine inBlock_here ?_ | refine inBlock_out rfl ?_ | refine LWp.seq ?_ | refine LWp.region ?_ | refine LWp.block ?_ | refine LWp.exit ?_ | refine LWp.ret ?_ | refine LWp.skip ?_ | refine LOps.valA ?_ | refine LOps.outA ?_ | refine LOps.whenA ?_ | refine LOps.pickA ?_ | refine LOps.storeA ?_)
    exact ⟨_, ansRes hP rfl rfl k4, hdoA ▸ rfl, hle⟩

set_option maxHeartbeats 8000000 in
set_option maxRecDepth 10000 in
theorem nobody_L {G : Ctx} (hP : G.P = Try.prog) (o : OpV) (S : LS) : LCalls G 4 [.agg (opL o)] (fun r _ => r = .one (bv true)) S := by
  have hD : TabOK G.P D := by rw [hP]; exact hD0
  have ea : EqTy G.P D 35 := by rw [hP]; exact ⟨by kernel_rfl, by kernel_rfl⟩
  have c1 := greatO_F hP o
  have cw := wakes_F hP
  have c2 := doN_F hP o
  have c3 := lenN_F hP
  have c4 := allN_F hP
  refine LCalls.enter (fn := Try.f4) (by rw [hP]; exact Try.func4) rfl rfl ?_
  repeat (first | refine LOps.nil ?_ | refine andThen_normal ?_ | refine andThen_exit ?_ | refine andThen_ret ?_ | refine inBlock_normal ?_ | refine inBlock_ret ?_ | refine inBlock_here ?_ | refine inBlock_out rfl ?_ | refine LWp.seq ?_ | refine LWp.region ?_ | refine LWp.block ?_ | refine LWp.exit ?_ | refine LWp.ret ?_ | refine LWp.skip ?_ | refine LOps.valA ?_ | refine LOps.outA ?_ | refine LOps.whenA ?_ | refine LOps.pickA ?_ | refine LOps.storeA ?_)
  have hle := LS.le.refl S
  refine LOps.do (LDo.box rfl rfl) rfl rfl rfl ?_
  rintro _ _ ⟨b1, hb1, rfl, rfl⟩
  have s1 := hle.none hb1
  refine LOps.gen (fun S' => S.le S' ∧ S'.box b1 = some (opL o)) ⟨hle.newBox hb1 _, box_new _ _ _⟩ ?_
  clear hle hb1 
  rintro S1 ⟨hle, k1⟩
  repeat (first | refine LOps.valH (LVal.load hD rfl rfl k1 rfl rfl) ?_ | refine LOps.nil ?_ | refine andThen_normal ?_ | refine andThen_exit ?_ | refine andThen_ret ?_ | refine inBlock_normal ?_ | refine inBlock_ret ?_ | refine inBlock_here ?_ | refine inBlock_out rfl ?_ | refine LWp.seq ?_ | refine LWp.region ?_ | refine LWp.block ?_ | refine LWp.exit ?_ | refine LWp.ret ?_ | refine LWp.skip ?_ | refine LOps.val (LVal.call rfl rfl (by rw [hP]; exact Try.func21) rfl (by decide) (c1)) rfl rfl rfl ?_ | refine LOps.whenC (LVal.call rfl rfl (by rw [hP]; exact Try.func21) rfl (by decide) (c1)) ?_ | refine LOps.valA ?_ | refine LOps.outA ?_ | refine LOps.whenA ?_ | refine LOps.pickA ?_ | refine LOps.storeA ?_)
  refine LWp.cond rfl (fun h => ?_) (fun h => ?_)
  · repeat (first | refine LOps.nil ?_ | refine andThen_normal ?_ | refine andThen_exit ?_ | refine andThen_ret ?_ | refine inBlock_normal ?_ | refine inBlock_ret ?_ | refine inBlock_here ?_ | refine inBlock_out rfl ?_ | refine LWp.seq ?_ | refine LWp.region ?_ | refine LWp.block ?_ | refine LWp.exit ?_ | refine LWp.ret ?_ | refine LWp.skip ?_ | refine LOps.val (LVal.call rfl rfl (by rw [hP]; exact Try.func10) rfl (by decide) (cw)) rfl rfl rfl ?_ | refine LOps.whenC (LVal.call rfl rfl (by rw [hP]; exact Try.func10) rfl (by decide) (cw)) ?_ | refine LOps.valA ?_ | refine LOps.outA ?_ | refine LOps.whenA ?_ | refine LOps.pickA ?_ | refine LOps.storeA ?_)
    exact ⟨_, LRes.one rfl, rfl⟩
  have h : greatO o = false := h
  clear h
  repeat (first | refine LOps.valH (LVal.load hD rfl rfl k1 rfl rfl) ?_ | refine LOps.nil ?_ | refine andThen_normal ?_ | refine andThen_exit ?_ | refine andThen_ret ?_ | refine inBlock_normal ?_ | refine inBlock_ret ?_ | refine inBlock_here ?_ | refine inBlock_out rfl ?_ | refine LWp.seq ?_ | refine LWp.region ?_ | refine LWp.block ?_ | refine LWp.exit ?_ | refine LWp.ret ?_ | refine LWp.skip ?_ | refine LOps.val (LVal.call rfl rfl (by rw [hP]; exact Try.func16) rfl (by decide) (c2)) rfl rfl rfl ?_ | refine LOps.whenC (LVal.call rfl rfl (by rw [hP]; exact Try.func16) rfl (by decide) (c2)) ?_ | refine LOps.valA ?_ | refine LOps.outA ?_ | refine LOps.whenA ?_ | refine LOps.pickA ?_)
  skip
  refine LOps.do (LDo.alloc hD rfl rfl rfl) rfl rfl rfl ?_
  rintro _ _ ⟨b4, hb4, rfl, rfl⟩
  have n1_4 := fresh_ne hb4 k1
  have m4_1 := n1_4.symm
  have s4 := hle.none hb4
  refine LOps.gen (fun S' => S.le S' ∧ S'.box b1 = some (opL o) ∧ S'.box b4 = some (ansL noAns)) ⟨hle.newBox hb4 _, (box_new_ne _ _ n1_4).trans k1, box_new _ _ _⟩ ?_
  clear hle hb4 k1
  rintro S4 ⟨hle, k1, k4⟩
  refine LOps.storeA (b := b4) (off := 0) (cs := ansL noAns) (l := ansL (doA [] o)) ?_
  refine LOps.gen (fun S' => S.le S' ∧ S'.box b1 = some (opL o) ∧ S'.box b4 = some (ansL (doA [] o))) ⟨hle.setBox s4 _, (box_set_ne _ _ n1_4).trans k1, (box_set _ _ _).trans (congrArg some (rfl))⟩ ?_
  clear hle k1 k4
  rintro Ss ⟨hle, k1, k4⟩
  repeat (first | refine LOps.nil ?_ | refine andThen_normal ?_ | refine andThen_exit ?_ | refine andThen_ret ?_ | refine inBlock_normal ?_ | refine inBlock_ret ?_ | refine inBlock_here ?_ | refine inBlock_out rfl ?_ | refine LWp.seq ?_ | refine LWp.region ?_ | refine LWp.block ?_ | refine LWp.exit ?_ | refine LWp.ret ?_ | refine LWp.skip ?_ | refine LOps.valA ?_ | refine LOps.outA ?_ | refine LOps.whenA ?_ | refine LOps.pickA ?_ | refine LOps.storeA ?_)
  refine LWp.join (fun T' S' => ∃ (b5 : Nat) (T'' : Nat → TV), S'.box b1 = some (opL o) ∧ S'.box b4 = some (ansL (doA [] o)) ∧ S'.box b5 = some (ansL (doA [] o)) ∧ T' = over T'' [(1, ptr b1), (3, nilP), (4, ptr b4), (5, ptr b5)]) ?_ ?_
  · refine LWp.drawX (fun c => Ss.box c = none) [1, 0, 3, 2, 4] (by rw [hP]; rfl) rfl ?_
    repeat (first | refine LRl.val (fun _ hS => LVal.load hD rfl rfl (hS.box _ _ k1 (fun hx => by rw [k1] at hx; cases hx)) rfl rfl) rfl rfl rfl ?_ | refine LRl.nil ?_ | refine LRl.valA ?_ | refine LRl.outA ?_ | refine LRl.whenA ?_ | refine LRl.pickA ?_)
    have hcell : ∀ (S5 S' : LS) (b : Nat) (X X' : LV), NewO Ss S5 b X → MvO S5 b X S' X' → LS.leX (fun c => Ss.box c = none) S5 S' := fun S5 S' b X X' nw mv => ⟨fun c cs hc hx => by
        cases hq : Ss.box c with
        | none => exact absurd hq hx
        | some cs' =>
          have h1 := nw.le.box c cs' hq
          rw [hc] at h1
          rw [h1]; exact (nw.mv mv).le.box c cs' hq, mv.obj⟩
    refine LRl.alt [1, 3, 0, 2, 4] rfl (LDo.callX (new_L hP .nil [] (by decide) Ss) (by rw [hP]; exact Try.func11)) (LDo.alloc hD rfl rfl rfl) rfl rfl rfl rfl rfl rfl (by rintro _ _ ⟨b, X, _, _, hle, _⟩ q _; exact .of_le hle) (by rintro _ _ ⟨b, hb, _, rfl⟩; exact fun _ _ => .newBox hb _) ?_ ?_
    · rintro _ S5 ⟨b, X, rfl, m, le5, nb, nx⟩
      have m : OM S5 b X [] := m
      have nw : NewO Ss S5 b X := ⟨le5, nb, nx⟩
      refine LRl.alt [1, 0, 2, 3, 4] rfl (LDo.alloc hD rfl rfl rfl) (LDo.callF (do_L hP [] (by decide) o b X S5 m) (by rw [hP]; exact Try.func16)) rfl rfl rfl rfl rfl rfl (by rintro _ _ ⟨b, hb, _, rfl⟩; exact fun _ _ => .newBox hb _) (by rintro _ S' ⟨_, X', _, mv⟩ q _; exact hcell _ _ _ _ _ nw mv) ?_ ?_
      · rintro _ _ ⟨b5, hb5, rfl, rfl⟩
        have le6 := LS.le.newBox (.refl S5) hb5 (ansL noAns)
        have nw6 := nw.le2 le6
        obtain ⟨e1, e2⟩ := m.noBlock hb5.box
        have n1 := fresh_ne hb5 (nw.le.box _ _ k1)
        have n4 := fresh_ne hb5 (nw.le.box _ _ k4)
        refine LRl.act (LDo.callF (do_L hP [] (by decide) o b X _ (m.le le6)) (by rw [hP]; exact Try.func16)) rfl rfl rfl rfl (by rintro _ S' ⟨_, X', _, mv⟩; exact .inl (hcell _ _ _ _ _ nw6 mv)) ?_
        rintro _ S7 ⟨rfl, X7, m7, mv7⟩
        have k5 := (mv7.box b5 _ (box_new S5 b5 (ansL noAns)) (fun e => e1 e.symm) e2).1
        replace nw := nw6.mv mv7
        refine LRl.act0 (LDo.store hD rfl rfl k5 rfl rfl rfl rfl) rfl rfl rfl (fun _ _ _ => .inr rfl) ?_
        rintro _ _ ⟨rfl, rfl⟩
        repeat (first | refine LRl.nil ?_ | refine LRl.valA ?_ | refine LRl.outA ?_ | refine LRl.whenA ?_ | refine LRl.pickA ?_)
        exact ⟨b5, _, (box_set_ne _ _ n1).trans (nw.le.box _ _ k1), (box_set_ne _ _ n4).trans (nw.le.box _ _ k4), box_set _ _ _, holds.over ⟨rfl, rfl, rfl, rfl, trivial⟩⟩
      · rintro _ S6 ⟨rfl, X6, m6, mv6⟩
        replace nw := nw.mv mv6
        refine LRl.actA (LDo.alloc hD rfl rfl rfl).toAct rfl rfl rfl rfl (by rintro _ _ ⟨b, hb, rfl, rfl⟩ q _; exact .inl (.newBox hb _)) ?_
        rintro _ _ ⟨b5, hb5, rfl, rfl⟩
        have n1 := fresh_ne hb5 (nw.le.box _ _ k1)
        have n4 := fresh_ne hb5 (nw.le.box _ _ k4)
        have k5 := box_new S6 b5 (ansL noAns)
        replace nw := nw.le2 (LS.le.newBox (.refl S6) hb5 (ansL noAns))
        refine LRl.act0 (LDo.store hD rfl rfl k5 rfl rfl rfl rfl) rfl rfl rfl (fun _ _ _ => .inr rfl) ?_
        rintro _ _ ⟨rfl, rfl⟩
        repeat (first | refine LRl.nil ?_ | refine LRl.valA ?_ | refine LRl.outA ?_ | refine LRl.whenA ?_ | refine LRl.pickA ?_)
        exact ⟨b5, _, (box_set_ne _ _ n1).trans (nw.le.box _ _ k1), (box_set_ne _ _ n4).trans (nw.le.box _ _ k4), box_set _ _ _, holds.over ⟨rfl, rfl, rfl, rfl, trivial⟩⟩
    · rintro _ _ ⟨b5, hb5, rfl, rfl⟩
      have n1 := fresh_ne hb5 k1
      have n4 := fresh_ne hb5 k4
      have le5 := LS.le.newBox (.refl Ss) hb5 (ansL noAns)
      refine LRl.act (LDo.callX (new_L hP .nil [] (by decide) _) (by rw [hP]; exact Try.func11)) rfl rfl rfl rfl (by rintro _ _ ⟨b, X, _, _, hle, _⟩; exact .inl (.of_le hle)) ?_
      rintro _ S6 ⟨b, X, rfl, m, le6, nb, nx⟩
      have m : OM S6 b X [] := m
      have nwb : NewO (Ss.newBox b5 (ansL noAns)) S6 b X := ⟨le6, nb, nx⟩
      have hno : ∀ c, (Ss.newBox b5 (ansL noAns)).box c = none → Ss.box c = none := fun c hc => by
        cases hq : Ss.box c with
        | none => rfl
        | some cs =>
          have := le5.box _ _ hq
          rw [hc] at this; cases this
      have nw0 : NewO Ss S6 b X := ⟨le5.trans le6, hno b nb, fun c hc => hno c (nx c hc)⟩
      refine LRl.act (LDo.callF (do_L hP [] (by decide) o b X _ m) (by rw [hP]; exact Try.func16)) rfl rfl rfl rfl (by rintro _ S' ⟨_, X', _, mv⟩; exact .inl (hcell _ _ _ _ _ nw0 mv)) ?_
      rintro _ S7 ⟨rfl, X7, m7, mv7⟩
      have k5 := (nwb.mv mv7).le.box _ _ (box_new Ss b5 (ansL noAns))
      have nw := nw0.mv mv7
      refine LRl.act0 (LDo.store hD rfl rfl k5 rfl rfl rfl rfl) rfl rfl rfl (fun _ _ _ => .inr rfl) ?_
      rintro _ _ ⟨rfl, rfl⟩
      repeat (first | refine LRl.nil ?_ | refine LRl.valA ?_ | refine LRl.outA ?_ | refine LRl.whenA ?_ | refine LRl.pickA ?_)
      exact ⟨b5, _, (box_set_ne _ _ n1).trans (nw.le.box _ _ k1), (box_set_ne _ _ n4).trans (nw.le.box _ _ k4), box_set _ _ _, holds.over ⟨rfl, rfl, rfl, rfl, trivial⟩⟩
  clear hle k1 k4
  rintro _ S6 ⟨b5, T6, k1, k4, k5, rfl⟩
  repeat (first | refine LOps.nil ?_ | refine andThen_normal ?_ | refine andThen_exit ?_ | refine andThen_ret ?_ | refine inBlock_normal ?_ | refine inBlock_ret ?_ | refine inBlock_here ?_ | refine inBlock_out rfl ?_ | refine LWp.seq ?_ | refine LWp.region ?_ | refine LWp.block ?_ | refine LWp.exit ?_ | refine LWp.ret ?_ | refine LWp.skip ?_ | refine LOps.valA ?_ | refine LOps.outA ?_ | refine LOps.whenA ?_ | refine LOps.pickA ?_ | refine LOps.storeA ?_)
  refine LWp.drawL [0, 1, 2, 3, 4, 5, 6, 7, 8, 9, 10, 11, 12, 13, 14, 15, 16, 17, 18, 19, 20, 21, 22, 23, 24] (by rw [hP]; rfl) rfl ?_
  repeat (first | refine LRl.val (fun _ hS => LVal.load hD rfl rfl (hS.box _ _ k1 id) rfl rfl) rfl rfl rfl ?_ | refine LRl.val (fun _ hS => LVal.load hD rfl rfl (hS.box _ _ k4 id) rfl rfl) rfl rfl rfl ?_ | refine LRl.val (fun _ hS => LVal.load hD rfl rfl (hS.box _ _ k5 id) rfl rfl) rfl rfl rfl ?_ | refine LRl.val (fun _ _ => LVal.to (LVal.eqAgg hD rfl rfl rfl rfl rfl ea rfl) (r' := .one (bv true)) (by exact congrArg (fun b => TV.one (bv b)) (ans_eq _))) rfl rfl rfl ?_ | refine LRl.val (fun _ _ => LVal.call rfl rfl (by rw [hP]; exact Try.func16) rfl (by decide) c2) rfl rfl rfl ?_ | refine LRl.val (fun _ _ => LVal.call rfl rfl (by rw [hP]; exact Try.func20) rfl (by decide) c3) rfl rfl rfl ?_ | refine LRl.val (fun _ _ => LVal.call rfl rfl (by rw [hP]; exact Try.func14) rfl (by decide) c4) rfl rfl rfl ?_ | refine LRl.val (fun _ _ => LVal.call rfl rfl (by rw [hP]; exact Try.func10) rfl (by decide) cw) rfl rfl rfl ?_ | refine LRl.valW ?_ | refine LRl.nil ?_ | refine LRl.valA ?_ | refine LRl.outA ?_ | refine LRl.whenA ?_ | refine LRl.pickA ?_)
  repeat (first | refine LOps.nil ?_ | refine andThen_normal ?_ | refine andThen_exit ?_ | refine andThen_ret ?_ | refine inBlock_normal ?_ | refine inBlock_ret ?_ | refine inBlock_here ?_ | refine inBlock_out rfl ?_ | refine LWp.seq ?_ | refine LWp.region ?_ | refine LWp.block ?_ | refine LWp.exit ?_ | refine LWp.ret ?_ | refine LWp.skip ?_ | refine LOps.valA ?_ | refine LOps.outA ?_ | refine LOps.whenA ?_ | refine LOps.pickA ?_ | refine LOps.storeA ?_)
  exact ⟨_, LRes.one rfl, rfl⟩
end Go.Proofs.Ytndcdmmmfplbbaa.LF

namespace Go.Proofs.Ytndcdmmmfplbbaa
open Go.RowKit LF
theorem omapNobody_walk (W : World) (v0 : Value) (l0 : List LV) (y0 : Typed LF.D 39 l0) (g0 : RepT (G0 Try.prog W) W (allCells W) (argTV ti39 l0) v0) :
    Calls Try.prog 4 #[v0] W fun e W' => e = .returned (.bool true) ∧ Below W.heap.size W W' := by
  obtain ⟨o, rfl⟩ := typed_op y0
  exact law_calls (fun G S h => nobody_L h o S) (.cons (vs := []) g0 .nil)
end Go.Proofs.Ytndcdmmmfplbbaa
