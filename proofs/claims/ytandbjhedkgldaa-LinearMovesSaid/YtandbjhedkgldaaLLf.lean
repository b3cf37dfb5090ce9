/- The document's Check and After of layer 8. -/
import Derived.Test.YtandbjhedkgldaaLLe
namespace Go.Proofs.Ytandbjhedkgldaa.LF
open Go.RowKit H
set_option linter.unusedVariables false

/-- What the laws let through. -/
structure Ok8 (l : List Pr) (evs : List Ev) : Prop where
  nl : l.length ≤ 100
  ps : Small5 l
  ne : evs.length ≤ 200
  os : ∀ e ∈ evs, FineO e.op
theorem Ok8.ws {l : List Pr} {evs : List Ev} (h : Ok8 l evs) : ∀ e ∈ evs, e.op.writes.length ≤ 1000000 := fun e he => by have := (h.os e he).n; omega

set_option maxHeartbeats 8000000 in
theorem refCheck8_F {G : Ctx} (hP : G.P = Try.prog) (l : List Pr) (evs : List Ev) (ok : Ok8 l evs) :
    LFun G 12 [.one (.sl .sh (l.map prL)), .one (.sl .sh (evs.map evL))] (.tup [.one (iv (checkL l evs).1), .one (iv (checkL l evs).2)]) := LFun.of fun S => by
  have hD : TabOK G.P D := by rw [hP]; exact hD0
  have ea : EqTy G.P D 38 := by rw [hP]; exact H.eqAns
  have hne := ok.ne
  have hnl := ok.nl
  refine LCalls.enter (fn := Try.f12) (by rw [hP]; exact Try.func12) rfl rfl ?_
  repeat (first | refine LOps.nil ?_ | refine andThen_normal ?_ | refine andThen_exit ?_ | refine andThen_ret ?_ | refine inBlock_normal ?_ | refine inBlock_ret ?_ | refine inBlock_here ?_ | refine inBlock_out rfl ?_ | refine LWp.seq ?_ | refine LWp.region ?_ | refine LWp.block ?_ | refine LWp.exit ?_ | refine LWp.ret ?_ | refine LWp.skip ?_ | refine LOps.val (LVal.call rfl rfl (by rw [hP]; exact Try.func29) rfl (by decide) (refCheck_F hP evs (by omega))) rfl rfl rfl ?_ | refine LOps.whenC (LVal.call rfl rfl (by rw [hP]; exact Try.func29) rfl (by decide) (refCheck_F hP evs (by omega))) ?_ | refine LOps.valA ?_ | refine LOps.outA ?_ | refine LOps.whenA ?_ | refine LOps.pickA ?_ | refine LOps.storeA ?_)
  refine LWp.cond rfl (fun h => ?_) (fun h => ?_)
  · have e : checkL l evs = checkS (fun _ => noKn) evs 0 := if_pos h
    rw [e]
    repeat (first | refine LOps.nil ?_ | refine andThen_normal ?_ | refine andThen_exit ?_ | refine andThen_ret ?_ | refine inBlock_normal ?_ | refine inBlock_ret ?_ | refine inBlock_here ?_ | refine inBlock_out rfl ?_ | refine LWp.seq ?_ | refine LWp.region ?_ | refine LWp.block ?_ | refine LWp.exit ?_ | refine LWp.ret ?_ | refine LWp.skip ?_ | refine LOps.valA ?_ | refine LOps.outA ?_ | refine LOps.whenA ?_ | refine LOps.pickA ?_ | refine LOps.storeA ?_)
    exact ⟨_, LRes.two rfl, rfl, .refl _⟩
  have h0 : (checkS (fun _ => noKn) evs 0).2 = 0 := by simpa using h
  have e : checkL l evs = if decide ((wit l evs).2 ≥ 0) = true then ((wit l evs).2, 32) else (-1, 0) := if_neg (by rw [show ((checkS (fun _ => noKn) evs 0).2 != 0) = false from h]; decide)
  rw [e]
  have hops : opsS evs = opOf evs := funext (ops_right (right_of_check h0))
  unfold wit
  rw [hops]
  have hst := fun j => runT_stay (opOf evs) evs (newP l) (j := j)
  have hsm := runT_small (opOf evs) (fineO_opOf ok.os) evs (newP_srt l) ok.ps.newP
  have hln := runT_length (opOf evs) evs (newP l)
  have hnp := newP_length l
  repeat (first | refine LOps.nil ?_ | refine andThen_normal ?_ | refine andThen_exit ?_ | refine andThen_ret ?_ | refine inBlock_normal ?_ | refine inBlock_ret ?_ | refine inBlock_here ?_ | refine inBlock_out rfl ?_ | refine LWp.seq ?_ | refine LWp.region ?_ | refine LWp.block ?_ | refine LWp.exit ?_ | refine LWp.ret ?_ | refine LWp.skip ?_ | refine LOps.val (LVal.call rfl rfl (by rw [hP]; exact Try.func30) rfl (by decide) (newW_F hP l (by omega))) rfl rfl rfl ?_ | refine LOps.whenC (LVal.call rfl rfl (by rw [hP]; exact Try.func30) rfl (by decide) (newW_F hP l (by omega))) ?_ | refine LOps.valA ?_ | refine LOps.outA ?_ | refine LOps.whenA ?_ | refine LOps.pickA ?_ | refine LOps.storeA ?_)
  refine LOps.do (LDo.alloc hD rfl rfl rfl) rfl rfl rfl ?_
  rintro _ _ ⟨b8, hb8, rfl, rfl⟩
  repeat (first | refine LOps.nil ?_ | refine andThen_normal ?_ | refine andThen_exit ?_ | refine andThen_ret ?_ | refine inBlock_normal ?_ | refine inBlock_ret ?_ | refine inBlock_here ?_ | refine inBlock_out rfl ?_ | refine LWp.seq ?_ | refine LWp.region ?_ | refine LWp.block ?_ | refine LWp.exit ?_ | refine LWp.ret ?_ | refine LWp.skip ?_ | refine LOps.valA ?_ | refine LOps.outA ?_ | refine LOps.whenA ?_ | refine LOps.pickA ?_ | refine LOps.storeA ?_)
  refine LWp.loop (fun k T S' => ∃ (T' : Nat → TV) (j : Nat) (w : List Pr), j ≤ evs.length ∧ k = evs.length - j ∧ S.le S' ∧ S'.box b8 = some (mapW w) ∧ Alike w (runT (opOf evs) evs (newP l) j).1 ∧ (runT (opOf evs) evs (newP l) j).2 = -1 ∧
    T = over T' [(1, .one (.sl .sh (evs.map evL))), (8, ptr b8), (9, .one (iv j))]) evs.length ?_ ?_
  · exact ⟨_, 0, newW l, by omega, by omega, (LS.le.newBox (.refl _) hb8 _).setBox hb8.box _, box_set _ _ _, Alike.new l, rfl, holds.over ⟨rfl, rfl, rfl, trivial⟩⟩
  have s8 := hb8.box
  clear hb8
  rintro k T S' ⟨T', j, w, hj, rfl, hle, k8, ha, h2, rfl⟩
  repeat (first | refine LOps.nil ?_ | refine andThen_normal ?_ | refine andThen_exit ?_ | refine andThen_ret ?_ | refine inBlock_normal ?_ | refine inBlock_ret ?_ | refine inBlock_here ?_ | refine inBlock_out rfl ?_ | refine LWp.seq ?_ | refine LWp.region ?_ | refine LWp.block ?_ | refine LWp.exit ?_ | refine LWp.ret ?_ | refine LWp.skip ?_ | refine LOps.valA ?_ | refine LOps.outA ?_ | refine LOps.whenA ?_ | refine LOps.pickA ?_ | refine LOps.storeA ?_)
  refine LWp.cond rfl (fun h => ?_) (fun h => ?_)
  · have hlt : j < evs.length := by simpa using h
    have e1 := runT_succ (opOf evs) (newP l) hlt
    have h5 := hsm j
    have hlj := hln j
    repeat (first | refine LOps.nil ?_ | refine andThen_normal ?_ | refine andThen_exit ?_ | refine andThen_ret ?_ | refine inBlock_normal ?_ | refine inBlock_ret ?_ | refine inBlock_here ?_ | refine inBlock_out rfl ?_ | refine LWp.seq ?_ | refine LWp.region ?_ | refine LWp.block ?_ | refine LWp.exit ?_ | refine LWp.ret ?_ | refine LWp.skip ?_ | refine LOps.val (LVal.call rfl rfl (by rw [hP]; exact Try.func31) rfl (by decide) (refIdle_F hP _)) rfl rfl rfl ?_ | refine LOps.whenC (LVal.call rfl rfl (by rw [hP]; exact Try.func31) rfl (by decide) (refIdle_F hP _)) ?_ | refine LOps.valA ?_ | refine LOps.outA ?_ | refine LOps.whenA ?_ | refine LOps.pickA ?_ | refine LOps.storeA ?_)
    refine LWp.cond rfl (fun h => ?_) (fun h => ?_)
    · rw [runStep, if_pos h] at e1
      repeat (first | refine LOps.nil ?_ | refine andThen_normal ?_ | refine andThen_exit ?_ | refine andThen_ret ?_ | refine inBlock_normal ?_ | refine inBlock_ret ?_ | refine inBlock_here ?_ | refine inBlock_out rfl ?_ | refine LWp.seq ?_ | refine LWp.region ?_ | refine LWp.block ?_ | refine LWp.exit ?_ | refine LWp.ret ?_ | refine LWp.skip ?_ | refine LOps.valA ?_ | refine LOps.outA ?_ | refine LOps.whenA ?_ | refine LOps.pickA ?_ | refine LOps.storeA ?_)
      exact ⟨evs.length - (j + 1), by omega, _, j + 1, w, by omega, rfl, hle, k8, by rw [e1]; exact ha, by rw [e1]; exact h2, holds.over ⟨rfl, rfl, rfl, trivial⟩⟩
    rw [runStep, if_neg (by rw [show ((evs[j].kind != 2) || idleS evs[j].ans) = false from h]; decide)] at e1
    repeat (first | refine LOps.nil ?_ | refine andThen_normal ?_ | refine andThen_exit ?_ | refine andThen_ret ?_ | refine inBlock_normal ?_ | refine inBlock_ret ?_ | refine inBlock_here ?_ | refine inBlock_out rfl ?_ | refine LWp.seq ?_ | refine LWp.region ?_ | refine LWp.block ?_ | refine LWp.exit ?_ | refine LWp.ret ?_ | refine LWp.skip ?_ | refine LOps.val (LVal.call rfl rfl (by rw [hP]; exact Try.func32) rfl (by decide) (refState_F hP evs (by omega) evs[j].id)) rfl rfl rfl ?_ | refine LOps.whenC (LVal.call rfl rfl (by rw [hP]; exact Try.func32) rfl (by decide) (refState_F hP evs (by omega) evs[j].id)) ?_ | refine LOps.valA ?_ | refine LOps.outA ?_ | refine LOps.whenA ?_ | refine LOps.pickA ?_ | refine LOps.storeA ?_)
    refine LOps.do (LDo.alloc hD rfl rfl rfl) rfl rfl rfl ?_
    rintro _ _ ⟨b10, hb10, rfl, rfl⟩
    have s10 := hle.none hb10
    have n810 := fresh_ne hb10 k8
    refine LOps.do (LDo.alloc hD rfl rfl rfl) rfl rfl rfl ?_
    rintro _ _ ⟨b11, hb11, rfl, rfl⟩
    have s11 := (hle.newBox hb10 _).none hb11
    have n811 := fresh_ne hb11 ((box_new_ne _ (lzero ti34) n810).trans k8)
    have n1011 : b10 ≠ b11 := fresh_ne hb11 (box_new _ _ _)
    have n1110 := n1011.symm
    repeat (first | refine LOps.nil ?_ | refine andThen_normal ?_ | refine andThen_exit ?_ | refine andThen_ret ?_ | refine inBlock_normal ?_ | refine inBlock_ret ?_ | refine inBlock_here ?_ | refine inBlock_out rfl ?_ | refine LWp.seq ?_ | refine LWp.region ?_ | refine LWp.block ?_ | refine LWp.exit ?_ | refine LWp.ret ?_ | refine LWp.skip ?_ | refine LOps.valA ?_ | refine LOps.outA ?_ | refine LOps.whenA ?_ | refine LOps.pickA ?_ | refine LOps.storeA ?_)
    refine LOps.do (LDo.alloc hD rfl rfl rfl) rfl rfl rfl ?_
    rintro _ _ ⟨b13, hb13, rfl, rfl⟩
    have s13 : S.box b13 = none := ((((hle.newBox hb10 _).newBox hb11 _).setBox s10 _).setBox s11 _).none hb13
    refine LOps.gen (fun S2 => S.le S2 ∧ S2.box b8 = some (mapW w) ∧ S2.box b10 = some (opL (opOf evs evs[j].id)) ∧ S2.box b13 = some (lzero ti38) ∧ b10 ≠ b13 ∧ b8 ≠ b13) ⟨((((hle.newBox hb10 _).newBox hb11 _).setBox s10 _).setBox s11 _).newBox hb13 _, ?_⟩ ?_
    · have q8 := (box_set_ne (((S'.newBox b10 (lzero ti34)).newBox b11 (lzero ti38)).setBox b10 (opL (opOf evs evs[j].id))) (ansL (findE evs 2 evs[j].id).ans) n811).trans ((box_set_ne _ (opL (opOf evs evs[j].id)) n810).trans ((box_new_ne _ (lzero ti38) n811).trans ((box_new_ne _ (lzero ti34) n810).trans k8)))
      have q10 := (box_set_ne (((S'.newBox b10 (lzero ti34)).newBox b11 (lzero ti38)).setBox b10 (opL (opOf evs evs[j].id))) (ansL (findE evs 2 evs[j].id).ans) n1011).trans (box_set _ _ _)
      have m8 := fresh_ne hb13 q8
      have m10 := fresh_ne hb13 q10
      exact ⟨(box_new_ne _ _ m8).trans q8, (box_new_ne _ _ m10).trans q10, box_new _ _ _, m10, m8⟩
    clear hb13 hb10 hb11 s11 n811 n1011 k8 hle
    rintro S2 ⟨hle, k8, k10, k13, m10, m8⟩
    have cd := doW_F hP w _ ha (by have := ha.len; omega) (h5.alike ha) (opOf evs evs[j].id) (by have := (fineO_opOf ok.os evs[j].id).key; omega) (by have := (fineO_opOf ok.os evs[j].id).n; omega)
    have m8' := m8.symm
    repeat (first | refine LOps.nil ?_ | refine andThen_normal ?_ | refine andThen_exit ?_ | refine andThen_ret ?_ | refine inBlock_normal ?_ | refine inBlock_ret ?_ | refine inBlock_here ?_ | refine inBlock_out rfl ?_ | refine LWp.seq ?_ | refine LWp.region ?_ | refine LWp.block ?_ | refine LWp.exit ?_ | refine LWp.ret ?_ | refine LWp.skip ?_ | refine LOps.val (LVal.call rfl rfl (by rw [hP]; exact Try.func33) rfl (by decide) (cd)) rfl rfl rfl ?_ | refine LOps.whenC (LVal.call rfl rfl (by rw [hP]; exact Try.func33) rfl (by decide) (cd)) ?_ | refine LOps.valA ?_ | refine LOps.outA ?_ | refine LOps.whenA ?_ | refine LOps.pickA ?_ | refine LOps.storeA ?_)
    refine LWp.gen (fun S3 => S.le S3 ∧ S3.box b8 = some (mapW (doW w (opOf evs evs[j].id))) ∧ S3.box b13 = some (ansL (doA (runT (opOf evs) evs (newP l) j).1 (opOf evs evs[j].id)))) ⟨(hle.setBox s8 _).setBox s13 _, (box_set_ne _ _ m8).trans (box_set _ _ _), box_set _ _ _⟩ ?_
    clear hle k8 k10 k13
    rintro S3 ⟨hle, k8, k13⟩
    refine LWp.drawL [0, 1, 2, 3, 4, 5, 6] (by rw [hP]; rfl) rfl ?_
    repeat (first | refine LRl.val (fun _ hS => LVal.load hD rfl rfl (hS.box _ _ k13 id) rfl rfl) rfl rfl rfl ?_ | refine LRl.nil ?_ | refine LRl.valA ?_ | refine LRl.outA ?_ | refine LRl.whenA ?_ | refine LRl.pickA ?_)
    refine andThen_normal ?_
    repeat (first | refine LOps.nil ?_ | refine andThen_normal ?_ | refine andThen_exit ?_ | refine andThen_ret ?_ | refine inBlock_normal ?_ | refine inBlock_ret ?_ | refine inBlock_here ?_ | refine inBlock_out rfl ?_ | refine LWp.seq ?_ | refine LWp.region ?_ | refine LWp.block ?_ | refine LWp.exit ?_ | refine LWp.ret ?_ | refine LWp.skip ?_ | refine LOps.valA ?_ | refine LOps.outA ?_ | refine LOps.whenA ?_ | refine LOps.pickA ?_ | refine LOps.storeA ?_)
    refine LWp.cond rfl (fun h => ?_) (fun h => ?_)
    · have hd : (!decide (doA (runT (opOf evs) evs (newP l) j).1 (opOf evs evs[j].id) = evs[j].ans)) = true := by rw [← ans_eq]; exact h
      rw [h2, if_pos (by rw [hd]; rfl)] at e1
      have e2 : (runT (opOf evs) evs (newP l) (j + 1)).2 = (j : Int) := by rw [e1]
      have e3 := hst (j + 1) (by rw [e2]; omega) evs.length (by omega)
      rw [e3, e2, if_pos (by simp)]
      repeat (first | refine LOps.nil ?_ | refine andThen_normal ?_ | refine andThen_exit ?_ | refine andThen_ret ?_ | refine inBlock_normal ?_ | refine inBlock_ret ?_ | refine inBlock_here ?_ | refine inBlock_out rfl ?_ | refine LWp.seq ?_ | refine LWp.region ?_ | refine LWp.block ?_ | refine LWp.exit ?_ | refine LWp.ret ?_ | refine LWp.skip ?_ | refine LOps.valA ?_ | refine LOps.outA ?_ | refine LOps.whenA ?_ | refine LOps.pickA ?_ | refine LOps.storeA ?_)
      exact ⟨_, LRes.two rfl, rfl, hle⟩
    · have hd : (!decide (doA (runT (opOf evs) evs (newP l) j).1 (opOf evs evs[j].id) = evs[j].ans)) = false := by rw [← ans_eq]; exact h
      rw [h2, if_neg (by rw [hd]; decide)] at e1
      repeat (first | refine LOps.nil ?_ | refine andThen_normal ?_ | refine andThen_exit ?_ | refine andThen_ret ?_ | refine inBlock_normal ?_ | refine inBlock_ret ?_ | refine inBlock_here ?_ | refine inBlock_out rfl ?_ | refine LWp.seq ?_ | refine LWp.region ?_ | refine LWp.block ?_ | refine LWp.exit ?_ | refine LWp.ret ?_ | refine LWp.skip ?_ | refine LOps.valA ?_ | refine LOps.outA ?_ | refine LOps.whenA ?_ | refine LOps.pickA ?_ | refine LOps.storeA ?_)
      exact ⟨evs.length - (j + 1), by omega, _, j + 1, _, by omega, rfl, hle, k8, by rw [e1]; exact ha.doO _, by rw [e1], holds.over ⟨rfl, rfl, rfl, trivial⟩⟩
  · have hge : j = evs.length := by simp at h; omega
    subst hge
    rw [h2]
    repeat (first | refine LOps.nil ?_ | refine andThen_normal ?_ | refine andThen_exit ?_ | refine andThen_ret ?_ | refine inBlock_normal ?_ | refine inBlock_ret ?_ | refine inBlock_here ?_ | refine inBlock_out rfl ?_ | refine LWp.seq ?_ | refine LWp.region ?_ | refine LWp.block ?_ | refine LWp.exit ?_ | refine LWp.ret ?_ | refine LWp.skip ?_ | refine LOps.valA ?_ | refine LOps.outA ?_ | refine LOps.whenA ?_ | refine LOps.pickA ?_ | refine LOps.storeA ?_)
    exact ⟨_, LRes.two rfl, rfl, hle⟩

set_option maxHeartbeats 8000000 in
theorem refAfter8_F {G : Ctx} (hP : G.P = Try.prog) (l : List Pr) (evs : List Ev) (ok : Ok8 l evs) :
    LFun G 18 [.one (.sl .sh (l.map prL)), .one (.sl .sh (evs.map evL))] (.one (.sl .sh ((afterL l evs).map prL))) := LFun.of fun S => by
  have hD : TabOK G.P D := by rw [hP]; exact hD0
  have ea : EqTy G.P D 38 := by rw [hP]; exact H.eqAns
  have hne := ok.ne
  have hnl := ok.nl
  refine LCalls.enter (fn := Try.f18) (by rw [hP]; exact Try.func18) rfl rfl ?_
  repeat (first | refine LOps.nil ?_ | refine andThen_normal ?_ | refine andThen_exit ?_ | refine andThen_ret ?_ | refine inBlock_normal ?_ | refine inBlock_ret ?_ | refine inBlock_here ?_ | refine inBlock_out rfl ?_ | refine LWp.seq ?_ | refine LWp.region ?_ | refine LWp.block ?_ | refine LWp.exit ?_ | refine LWp.ret ?_ | refine LWp.skip ?_ | refine LOps.val (LVal.call rfl rfl (by rw [hP]; exact Try.func29) rfl (by decide) (refCheck_F hP evs (by omega))) rfl rfl rfl ?_ | refine LOps.whenC (LVal.call rfl rfl (by rw [hP]; exact Try.func29) rfl (by decide) (refCheck_F hP evs (by omega))) ?_ | refine LOps.valA ?_ | refine LOps.outA ?_ | refine LOps.whenA ?_ | refine LOps.pickA ?_ | refine LOps.storeA ?_)
  refine LWp.cond rfl (fun h => ?_) (fun h => ?_)
  · have e : afterL l evs = [] := if_pos h
    rw [e]
    repeat (first | refine LOps.nil ?_ | refine andThen_normal ?_ | refine andThen_exit ?_ | refine andThen_ret ?_ | refine inBlock_normal ?_ | refine inBlock_ret ?_ | refine inBlock_here ?_ | refine inBlock_out rfl ?_ | refine LWp.seq ?_ | refine LWp.region ?_ | refine LWp.block ?_ | refine LWp.exit ?_ | refine LWp.ret ?_ | refine LWp.skip ?_ | refine LOps.valA ?_ | refine LOps.outA ?_ | refine LOps.whenA ?_ | refine LOps.pickA ?_ | refine LOps.storeA ?_)
    exact ⟨_, LRes.sh (LRes.one rfl), rfl, .refl _⟩
  have h0 : (checkS (fun _ => noKn) evs 0).2 = 0 := by simpa using h
  have e : afterL l evs = (wit l evs).1 := if_neg (by rw [show ((checkS (fun _ => noKn) evs 0).2 != 0) = false from h]; decide)
  rw [e]
  have hops : opsS evs = opOf evs := funext (ops_right (right_of_check h0))
  unfold wit
  rw [hops]
  have hsm := runT_small (opOf evs) (fineO_opOf ok.os) evs (newP_srt l) ok.ps.newP
  have hln := runT_length (opOf evs) evs (newP l)
  have hnp := newP_length l
  repeat (first | refine LOps.nil ?_ | refine andThen_normal ?_ | refine andThen_exit ?_ | refine andThen_ret ?_ | refine inBlock_normal ?_ | refine inBlock_ret ?_ | refine inBlock_here ?_ | refine inBlock_out rfl ?_ | refine LWp.seq ?_ | refine LWp.region ?_ | refine LWp.block ?_ | refine LWp.exit ?_ | refine LWp.ret ?_ | refine LWp.skip ?_ | refine LOps.val (LVal.call rfl rfl (by rw [hP]; exact Try.func30) rfl (by decide) (newW_F hP l (by omega))) rfl rfl rfl ?_ | refine LOps.whenC (LVal.call rfl rfl (by rw [hP]; exact Try.func30) rfl (by decide) (newW_F hP l (by omega))) ?_ | refine LOps.valA ?_ | refine LOps.outA ?_ | refine LOps.whenA ?_ | refine LOps.pickA ?_ | refine LOps.storeA ?_)
  refine LOps.do (LDo.alloc hD rfl rfl rfl) rfl rfl rfl ?_
  rintro _ _ ⟨b7, hb7, rfl, rfl⟩
  repeat (first | refine LOps.nil ?_ | refine andThen_normal ?_ | refine andThen_exit ?_ | refine andThen_ret ?_ | refine inBlock_normal ?_ | refine inBlock_ret ?_ | refine inBlock_here ?_ | refine inBlock_out rfl ?_ | refine LWp.seq ?_ | refine LWp.region ?_ | refine LWp.block ?_ | refine LWp.exit ?_ | refine LWp.ret ?_ | refine LWp.skip ?_ | refine LOps.valA ?_ | refine LOps.outA ?_ | refine LOps.whenA ?_ | refine LOps.pickA ?_ | refine LOps.storeA ?_)
  refine LWp.loop (fun k T S' => ∃ (T' : Nat → TV) (j : Nat) (w : List Pr), j ≤ evs.length ∧ k = evs.length - j ∧ S.le S' ∧ S'.box b7 = some (mapW w) ∧ Alike w (runT (opOf evs) evs (newP l) j).1 ∧
    T = over T' [(1, .one (.sl .sh (evs.map evL))), (7, ptr b7), (8, .one (iv j))]) evs.length ?_ ?_
  · exact ⟨_, 0, newW l, by omega, by omega, (LS.le.newBox (.refl _) hb7 _).setBox hb7.box _, box_set _ _ _, Alike.new l, holds.over ⟨rfl, rfl, rfl, trivial⟩⟩
  have s7 := hb7.box
  clear hb7
  rintro k T S' ⟨T', j, w, hj, rfl, hle, k7, ha, rfl⟩
  have h5 := hsm j
  have hlj := hln j
  repeat (first | refine LOps.nil ?_ | refine andThen_normal ?_ | refine andThen_exit ?_ | refine andThen_ret ?_ | refine inBlock_normal ?_ | refine inBlock_ret ?_ | refine inBlock_here ?_ | refine inBlock_out rfl ?_ | refine LWp.seq ?_ | refine LWp.region ?_ | refine LWp.block ?_ | refine LWp.exit ?_ | refine LWp.ret ?_ | refine LWp.skip ?_ | refine LOps.valA ?_ | refine LOps.outA ?_ | refine LOps.whenA ?_ | refine LOps.pickA ?_ | refine LOps.storeA ?_)
  refine LWp.cond rfl (fun h => ?_) (fun h => ?_)
  · have hlt : j < evs.length := by simpa using h
    have e1 := runT_succ (opOf evs) (newP l) hlt
    repeat (first | refine LOps.nil ?_ | refine andThen_normal ?_ | refine andThen_exit ?_ | refine andThen_ret ?_ | refine inBlock_normal ?_ | refine inBlock_ret ?_ | refine inBlock_here ?_ | refine inBlock_out rfl ?_ | refine LWp.seq ?_ | refine LWp.region ?_ | refine LWp.block ?_ | refine LWp.exit ?_ | refine LWp.ret ?_ | refine LWp.skip ?_ | refine LOps.val (LVal.call rfl rfl (by rw [hP]; exact Try.func31) rfl (by decide) (refIdle_F hP _)) rfl rfl rfl ?_ | refine LOps.whenC (LVal.call rfl rfl (by rw [hP]; exact Try.func31) rfl (by decide) (refIdle_F hP _)) ?_ | refine LOps.valA ?_ | refine LOps.outA ?_ | refine LOps.whenA ?_ | refine LOps.pickA ?_ | refine LOps.storeA ?_)
    refine LWp.cond rfl (fun h => ?_) (fun h => ?_)
    · have h' : ((evs[j].kind != 2) || idleS evs[j].ans) = false := by
        have h3 : ((evs[j].kind == 2) && !idleS evs[j].ans) = true := h
        rw [Bool.and_eq_true] at h3
        rw [bne, h3.1, Bool.not_true, Bool.false_or]
        simpa using h3.2
      rw [runStep, if_neg (by rw [h']; decide)] at e1
      repeat (first | refine LOps.nil ?_ | refine andThen_normal ?_ | refine andThen_exit ?_ | refine andThen_ret ?_ | refine inBlock_normal ?_ | refine inBlock_ret ?_ | refine inBlock_here ?_ | refine inBlock_out rfl ?_ | refine LWp.seq ?_ | refine LWp.region ?_ | refine LWp.block ?_ | refine LWp.exit ?_ | refine LWp.ret ?_ | refine LWp.skip ?_ | refine LOps.val (LVal.call rfl rfl (by rw [hP]; exact Try.func32) rfl (by decide) (refState_F hP evs (by omega) evs[j].id)) rfl rfl rfl ?_ | refine LOps.whenC (LVal.call rfl rfl (by rw [hP]; exact Try.func32) rfl (by decide) (refState_F hP evs (by omega) evs[j].id)) ?_ | refine LOps.valA ?_ | refine LOps.outA ?_ | refine LOps.whenA ?_ | refine LOps.pickA ?_ | refine LOps.storeA ?_)
      refine LOps.do (LDo.alloc hD rfl rfl rfl) rfl rfl rfl ?_
      rintro _ _ ⟨b9, hb9, rfl, rfl⟩
      have s9 := hle.none hb9
      have n79 := fresh_ne hb9 k7
      refine LOps.do (LDo.alloc hD rfl rfl rfl) rfl rfl rfl ?_
      rintro _ _ ⟨b10, hb10, rfl, rfl⟩
      have s10 := (hle.newBox hb9 _).none hb10
      have n710 := fresh_ne hb10 ((box_new_ne _ (lzero ti34) n79).trans k7)
      have n910 : b9 ≠ b10 := fresh_ne hb10 (box_new _ _ _)
      have n109 := n910.symm
      have cd := doW_F hP w _ ha (by have := ha.len; omega) (h5.alike ha) (opOf evs evs[j].id) (by have := (fineO_opOf ok.os evs[j].id).key; omega) (by have := (fineO_opOf ok.os evs[j].id).n; omega)
      have l9 := (((hle.newBox hb9 (lzero ti34)).newBox hb10 (lzero ti38)).setBox s9 (opL (opOf evs evs[j].id))).setBox s10 (ansL (findE evs 2 evs[j].id).ans)
      repeat (first | refine LOps.nil ?_ | refine andThen_normal ?_ | refine andThen_exit ?_ | refine andThen_ret ?_ | refine inBlock_normal ?_ | refine inBlock_ret ?_ | refine inBlock_here ?_ | refine inBlock_out rfl ?_ | refine LWp.seq ?_ | refine LWp.region ?_ | refine LWp.block ?_ | refine LWp.exit ?_ | refine LWp.ret ?_ | refine LWp.skip ?_ | refine LOps.val (LVal.call rfl rfl (by rw [hP]; exact Try.func33) rfl (by decide) (cd)) rfl rfl rfl ?_ | refine LOps.whenC (LVal.call rfl rfl (by rw [hP]; exact Try.func33) rfl (by decide) (cd)) ?_ | refine LOps.valA ?_ | refine LOps.outA ?_ | refine LOps.whenA ?_ | refine LOps.pickA ?_ | refine LOps.storeA ?_)
      exact ⟨evs.length - (j + 1), by omega, _, j + 1, _, by omega, rfl, l9.setBox s7 _, box_set _ _ _, by rw [e1]; exact ha.doO _, holds.over ⟨rfl, rfl, rfl, trivial⟩⟩
    · have h' : ((evs[j].kind != 2) || idleS evs[j].ans) = true := by
        have h3 : ((evs[j].kind == 2) && !idleS evs[j].ans) = false := h
        rw [Bool.and_eq_false_iff] at h3
        rw [bne]
        rcases h3 with h3 | h3
        · rw [h3]; rfl
        · rw [show idleS evs[j].ans = true by simpa using h3, Bool.or_true]
      rw [runStep, if_pos h'] at e1
      repeat (first | refine LOps.nil ?_ | refine andThen_normal ?_ | refine andThen_exit ?_ | refine andThen_ret ?_ | refine inBlock_normal ?_ | refine inBlock_ret ?_ | refine inBlock_here ?_ | refine inBlock_out rfl ?_ | refine LWp.seq ?_ | refine LWp.region ?_ | refine LWp.block ?_ | refine LWp.exit ?_ | refine LWp.ret ?_ | refine LWp.skip ?_ | refine LOps.valA ?_ | refine LOps.outA ?_ | refine LOps.whenA ?_ | refine LOps.pickA ?_ | refine LOps.storeA ?_)
      exact ⟨evs.length - (j + 1), by omega, _, j + 1, w, by omega, rfl, hle, k7, by rw [e1]; exact ha, holds.over ⟨rfl, rfl, rfl, trivial⟩⟩
  · have hge : j = evs.length := by simp at h; omega
    subst hge
    repeat (first | refine LOps.nil ?_ | refine andThen_normal ?_ | refine andThen_exit ?_ | refine andThen_ret ?_ | refine inBlock_normal ?_ | refine inBlock_ret ?_ | refine inBlock_here ?_ | refine inBlock_out rfl ?_ | refine LWp.seq ?_ | refine LWp.region ?_ | refine LWp.block ?_ | refine LWp.exit ?_ | refine LWp.ret ?_ | refine LWp.skip ?_ | refine LOps.val (LVal.call rfl rfl (by rw [hP]; exact Try.func37) rfl (by decide) (allW_F hP w _ ha (by have := ha.len; omega) (h5.alike ha))) rfl rfl rfl ?_ | refine LOps.whenC (LVal.call rfl rfl (by rw [hP]; exact Try.func37) rfl (by decide) (allW_F hP w _ ha (by have := ha.len; omega) (h5.alike ha))) ?_ | refine LOps.valA ?_ | refine LOps.outA ?_ | refine LOps.whenA ?_ | refine LOps.pickA ?_ | refine LOps.storeA ?_)
    exact ⟨_, LRes.sh (LRes.one rfl), rfl, hle⟩
end Go.Proofs.Ytandbjhedkgldaa.LF
