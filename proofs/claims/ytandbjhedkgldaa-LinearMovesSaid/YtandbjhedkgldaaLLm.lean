/- The document's Witness; LinearChecks. -/
import Derived.Test.YtandbjhedkgldaaLLl
import Derived.Test.YtandbjhedkgldaaQHh
import Derived.Test.YtandbjhedkgldaaLGc
namespace Go.Proofs.Ytandbjhedkgldaa.LF
open Go.RowKit H
set_option linter.unusedVariables false
attribute [local irreducible] andThen inBlock LWp LOps LCalls

set_option maxHeartbeats 4000000 in
theorem refWitness_F {G : Ctx} (hP : G.P = Try.prog) (l : List Ev) (hl : l.length ≤ 1000) :
    LFun G 14 [.one (.sl .sh (l.map evL))] (.one (.sl .sh ((witS l).map opL))) := LFun.of fun S => by
  have hD : TabOK G.P D := by rw [hP]; exact hD0
  have hml := marks_len l
  refine LCalls.enter (fn := Try.f14) (by rw [hP]; exact Try.func14) rfl rfl ?_
  repeat (first | refine LOps.nil ?_ | refine andThen_normal ?_ | refine andThen_exit ?_ | refine andThen_ret ?_ | refine inBlock_normal ?_ | refine inBlock_ret ?_ | refine inBlock_here ?_ | refine inBlock_out rfl ?_ | refine LWp.seq ?_ | refine LWp.region ?_ | refine LWp.block ?_ | refine LWp.exit ?_ | refine LWp.ret ?_ | refine LWp.skip ?_ | refine LOps.val (LVal.call rfl rfl (by rw [hP]; exact Try.func29) rfl (by decide) (refCheck_F hP l (by omega))) rfl rfl rfl ?_ | refine LOps.whenC (LVal.call rfl rfl (by rw [hP]; exact Try.func29) rfl (by decide) (refCheck_F hP l (by omega))) ?_ | refine LOps.valA ?_ | refine LOps.outA ?_ | refine LOps.whenA ?_ | refine LOps.pickA ?_ | refine LOps.storeA ?_)
  refine LWp.cond rfl (fun h => ?_) (fun h => ?_)
  · have e : witS l = [] := if_pos h
    rw [e]
    repeat (first | refine LOps.nil ?_ | refine andThen_normal ?_ | refine andThen_exit ?_ | refine andThen_ret ?_ | refine inBlock_normal ?_ | refine inBlock_ret ?_ | refine inBlock_here ?_ | refine inBlock_out rfl ?_ | refine LWp.seq ?_ | refine LWp.region ?_ | refine LWp.block ?_ | refine LWp.exit ?_ | refine LWp.ret ?_ | refine LWp.skip ?_ | refine LOps.valA ?_ | refine LOps.outA ?_ | refine LOps.whenA ?_ | refine LOps.pickA ?_ | refine LOps.storeA ?_)
    exact ⟨_, LRes.sh (LRes.one rfl), rfl, .refl _⟩
  have e : witS l = (marksS l).map (opOf l) := if_neg (by rw [show ((checkS (fun _ => noKn) l 0).2 != 0) = false from h]; decide)
  rw [e]
  have him : (iL (marksS l)).length = (marksS l).length := List.length_map ..
  repeat (first | refine LOps.nil ?_ | refine andThen_normal ?_ | refine andThen_exit ?_ | refine andThen_ret ?_ | refine inBlock_normal ?_ | refine inBlock_ret ?_ | refine inBlock_here ?_ | refine inBlock_out rfl ?_ | refine LWp.seq ?_ | refine LWp.region ?_ | refine LWp.block ?_ | refine LWp.exit ?_ | refine LWp.ret ?_ | refine LWp.skip ?_ | refine LOps.val (LVal.call rfl rfl (by rw [hP]; exact Try.func35) rfl (by decide) (refMarks_F hP l (by omega))) rfl rfl rfl ?_ | refine LOps.whenC (LVal.call rfl rfl (by rw [hP]; exact Try.func35) rfl (by decide) (refMarks_F hP l (by omega))) ?_ | refine LOps.valA ?_ | refine LOps.outA ?_ | refine LOps.whenA ?_ | refine LOps.pickA ?_ | refine LOps.storeA ?_)
  refine LWp.loop (fun k T S' => ∃ T' j o', j ≤ (marksS l).length ∧ k = (marksS l).length - j ∧ S.le S' ∧ Owned S' 34 j o' ∧ Out S o' ∧ T = over T' [(0, .one (.sl .sh (l.map evL))), (5, .one (.sl o' ((((marksS l).take j).map (opOf l)).map opL))), (6, .one (.sl .sh (iL (marksS l)))), (7, .one (iv j))]) (marksS l).length ?_ ?_
  · exact ⟨_, 0, .nil, by omega, by omega, .refl _, rfl, .nil _, holds.over ⟨rfl, rfl, rfl, rfl, trivial⟩⟩
  rintro k T S' ⟨T', j, o', hj, rfl, hle, hown, hout, rfl⟩
  repeat (first | refine LOps.nil ?_ | refine andThen_normal ?_ | refine andThen_exit ?_ | refine andThen_ret ?_ | refine inBlock_normal ?_ | refine inBlock_ret ?_ | refine inBlock_here ?_ | refine inBlock_out rfl ?_ | refine LWp.seq ?_ | refine LWp.region ?_ | refine LWp.block ?_ | refine LWp.exit ?_ | refine LWp.ret ?_ | refine LWp.skip ?_ | refine LOps.valA ?_ | refine LOps.outA ?_ | refine LOps.whenA ?_ | refine LOps.pickA ?_ | refine LOps.storeA ?_)
  refine LWp.cond rfl (fun h => ?_) (fun h => ?_)
  · have hlt : j < (marksS l).length := by rw [him] at h; simpa using h
    repeat (first | refine LOps.nil ?_ | refine andThen_normal ?_ | refine andThen_exit ?_ | refine andThen_ret ?_ | refine inBlock_normal ?_ | refine inBlock_ret ?_ | refine inBlock_here ?_ | refine inBlock_out rfl ?_ | refine LWp.seq ?_ | refine LWp.region ?_ | refine LWp.block ?_ | refine LWp.exit ?_ | refine LWp.ret ?_ | refine LWp.skip ?_ | refine LOps.val (LVal.call rfl rfl (by rw [hP]; exact Try.func32) rfl (by decide) (refState_F hP l (by omega) (marksS l)[j])) rfl rfl rfl ?_ | refine LOps.whenC (LVal.call rfl rfl (by rw [hP]; exact Try.func32) rfl (by decide) (refState_F hP l (by omega) (marksS l)[j])) ?_ | refine LOps.valA ?_ | refine LOps.outA ?_ | refine LOps.whenA ?_ | refine LOps.pickA ?_ | refine LOps.storeA ?_)
    refine LOps.do (LDo.alloc hD rfl rfl rfl) rfl rfl rfl ?_
    rintro _ _ ⟨b8, hb8, rfl, rfl⟩
    have s8 := hle.none hb8
    refine LOps.do (LDo.alloc hD rfl rfl rfl) rfl rfl rfl ?_
    rintro _ _ ⟨b9, hb9, rfl, rfl⟩
    have s9 := (hle.newBox hb8 _).none hb9
    have n89 : b8 ≠ b9 := fresh_ne hb9 (box_new _ _ _)
    have n98 := n89.symm
    have l8 := (((hle.newBox hb8 (lzero ti34)).newBox hb9 (lzero ti38)).setBox s8 (opL (findE l 1 (marksS l)[j]).op)).setBox s9 (ansL (findE l 2 (marksS l)[j]).ans)
    repeat (first | refine LOps.nil ?_ | refine andThen_normal ?_ | refine andThen_exit ?_ | refine andThen_ret ?_ | refine inBlock_normal ?_ | refine inBlock_ret ?_ | refine inBlock_here ?_ | refine inBlock_out rfl ?_ | refine LWp.seq ?_ | refine LWp.region ?_ | refine LWp.block ?_ | refine LWp.exit ?_ | refine LWp.ret ?_ | refine LWp.skip ?_ | refine LOps.valA ?_ | refine LOps.outA ?_ | refine LOps.whenA ?_ | refine LOps.pickA ?_ | refine LOps.storeA ?_)
    refine LOps.do (LDo.push hD rfl rfl rfl rfl rfl rfl rfl rfl rfl rfl (show _ = j by simp; omega) hown (by omega)) rfl rfl rfl ?_
    rintro _ S3 ⟨o3, rfl, own3, hup, hno⟩
    repeat (first | refine LOps.nil ?_ | refine andThen_normal ?_ | refine andThen_exit ?_ | refine andThen_ret ?_ | refine inBlock_normal ?_ | refine inBlock_ret ?_ | refine inBlock_here ?_ | refine inBlock_out rfl ?_ | refine LWp.seq ?_ | refine LWp.region ?_ | refine LWp.block ?_ | refine LWp.exit ?_ | refine LWp.ret ?_ | refine LWp.skip ?_ | refine LOps.valA ?_ | refine LOps.outA ?_ | refine LOps.whenA ?_ | refine LOps.pickA ?_ | refine LOps.storeA ?_)
    refine ⟨(marksS l).length - (j + 1), by omega, _, j + 1, o3, by omega, rfl, l8.upto hup hout, own3, hout.next l8 hno, holds.over ⟨rfl, ?_, rfl, rfl, trivial⟩⟩
    rw [map_take_succ _ hlt, List.map_append]; rfl
  · have hge : (marksS l).length ≤ j := by rw [him] at h; simpa using h
    repeat (first | refine LOps.nil ?_ | refine andThen_normal ?_ | refine andThen_exit ?_ | refine andThen_ret ?_ | refine inBlock_normal ?_ | refine inBlock_ret ?_ | refine inBlock_here ?_ | refine inBlock_out rfl ?_ | refine LWp.seq ?_ | refine LWp.region ?_ | refine LWp.block ?_ | refine LWp.exit ?_ | refine LWp.ret ?_ | refine LWp.skip ?_ | refine LOps.valA ?_ | refine LOps.outA ?_ | refine LOps.whenA ?_ | refine LOps.pickA ?_ | refine LOps.storeA ?_)
    refine ⟨_, LRes.sh (LRes.one rfl), ?_, hle⟩
    rw [List.take_of_length_le hge]; rfl

theorem witS_len (l : List Ev) : (witS l).length ≤ l.length := by
  unfold witS
  split
  · simp
  · rw [List.length_map]; exact marks_len l
theorem witS_ws {l : List Ev} (h : ∀ e ∈ l, FineO e.op) : ∀ o ∈ witS l, FineO o := fun o ho => by
  unfold witS at ho
  split at ho
  · cases ho
  · obtain ⟨id, _, rfl⟩ := List.mem_map.1 ho
    exact fineO_opOf h id
theorem afterL_len (l : List Pr) (evs : List Ev) : (afterL l evs).length ≤ l.length + 8 * evs.length := by
  unfold afterL
  split
  · simp
  · exact wit_length l evs

set_option maxHeartbeats 8000000 in
theorem checks8_L {G : Ctx} (hP : G.P = Try.prog) (l : List Pr) (evs : List Ev) (S : LS) : LCalls G 3 [.one (.sl .sh (l.map prL)), .one (.sl .sh (evs.map evL))] (fun r _ => r = .one (bv true)) S := by
  have hD : TabOK G.P D := by rw [hP]; exact hD0
  have cw := wakes8_F hP
  refine LCalls.enter (fn := Try.f3) (by rw [hP]; exact Try.func3) rfl rfl ?_
  repeat (first | refine LOps.nil ?_ | refine andThen_normal ?_ | refine andThen_exit ?_ | refine andThen_ret ?_ | refine inBlock_normal ?_ | refine inBlock_ret ?_ | refine inBlock_here ?_ | refine inBlock_out rfl ?_ | refine LWp.seq ?_ | refine LWp.region ?_ | refine LWp.block ?_ | refine LWp.exit ?_ | refine LWp.ret ?_ | refine LWp.skip ?_ | refine LOps.val (LVal.call rfl rfl (by rw [hP]; exact Try.func9) rfl (by decide) (great8_F hP l evs)) rfl rfl rfl ?_ | refine LOps.whenC (LVal.call rfl rfl (by rw [hP]; exact Try.func9) rfl (by decide) (great8_F hP l evs)) ?_ | refine LOps.valA ?_ | refine LOps.outA ?_ | refine LOps.whenA ?_ | refine LOps.pickA ?_ | refine LOps.storeA ?_)
  refine LWp.cond rfl (fun h => ?_) (fun h => ?_)
  · repeat (first | refine LOps.nil ?_ | refine andThen_normal ?_ | refine andThen_exit ?_ | refine andThen_ret ?_ | refine inBlock_normal ?_ | refine inBlock_ret ?_ | refine inBlock_here ?_ | refine inBlock_out rfl ?_ | refine LWp.seq ?_ | refine LWp.region ?_ | refine LWp.block ?_ | refine LWp.exit ?_ | refine LWp.ret ?_ | refine LWp.skip ?_ | refine LOps.val (LVal.call rfl rfl (by rw [hP]; exact Try.func10) rfl (by decide) (cw)) rfl rfl rfl ?_ | refine LOps.whenC (LVal.call rfl rfl (by rw [hP]; exact Try.func10) rfl (by decide) (cw)) ?_ | refine LOps.valA ?_ | refine LOps.outA ?_ | refine LOps.whenA ?_ | refine LOps.pickA ?_ | refine LOps.storeA ?_)
    exact ⟨_, LRes.one rfl, rfl⟩
  have ok := ok8_of h
  have hne := ok.ne
  have hnl := ok.nl
  have hwl := witS_len evs
  have hws := witS_ws ok.os
  have hal := afterL_len l evs
  have c1 := LF.check_F hP l (by omega) evs (by omega)
  have c2 := refCheck8_F hP l evs ok
  have c3 := witness_F hP evs (by omega) ok.ws
  have c4 := refWitness_F hP evs (by omega)
  have c5 := after_F hP l (by omega) evs (by omega)
  have c6 := refAfter8_F hP l evs ok
  generalize checkL l evs = K at *
  generalize witS evs = W at *
  generalize afterL l evs = A at *
  have cs := sameP_F hP A A (by omega)
  rw [sameP_self] at cs
  repeat (first | refine LOps.nil ?_ | refine andThen_normal ?_ | refine andThen_exit ?_ | refine andThen_ret ?_ | refine inBlock_normal ?_ | refine inBlock_ret ?_ | refine inBlock_here ?_ | refine inBlock_out rfl ?_ | refine LWp.seq ?_ | refine LWp.region ?_ | refine LWp.block ?_ | refine LWp.exit ?_ | refine LWp.ret ?_ | refine LWp.skip ?_ | refine LOps.val (LVal.call rfl rfl (by rw [hP]; exact Try.func11) rfl (by decide) (c1)) rfl rfl rfl ?_ | refine LOps.val (LVal.call rfl rfl (by rw [hP]; exact Try.func12) rfl (by decide) (c2)) rfl rfl rfl ?_ | refine LOps.val (LVal.call rfl rfl (by rw [hP]; exact Try.func13) rfl (by decide) (c3)) rfl rfl rfl ?_ | refine LOps.val (LVal.call rfl rfl (by rw [hP]; exact Try.func14) rfl (by decide) (c4)) rfl rfl rfl ?_ | refine LOps.whenC (LVal.call rfl rfl (by rw [hP]; exact Try.func11) rfl (by decide) (c1)) ?_ | refine LOps.whenC (LVal.call rfl rfl (by rw [hP]; exact Try.func12) rfl (by decide) (c2)) ?_ | refine LOps.whenC (LVal.call rfl rfl (by rw [hP]; exact Try.func13) rfl (by decide) (c3)) ?_ | refine LOps.whenC (LVal.call rfl rfl (by rw [hP]; exact Try.func14) rfl (by decide) (c4)) ?_ | refine LOps.valA ?_ | refine LOps.outA ?_ | refine LOps.whenA ?_ | refine LOps.pickA ?_ | refine LOps.storeA ?_)
  refine LWp.cond rfl (fun h => ?_) (fun h => ?_)
  · simp at h
  have hwm : (W.map opL).length = W.length := List.length_map ..
  repeat (first | refine LOps.nil ?_ | refine andThen_normal ?_ | refine andThen_exit ?_ | refine andThen_ret ?_ | refine inBlock_normal ?_ | refine inBlock_ret ?_ | refine inBlock_here ?_ | refine inBlock_out rfl ?_ | refine LWp.seq ?_ | refine LWp.region ?_ | refine LWp.block ?_ | refine LWp.exit ?_ | refine LWp.ret ?_ | refine LWp.skip ?_ | refine LOps.valA ?_ | refine LOps.outA ?_ | refine LOps.whenA ?_ | refine LOps.pickA ?_ | refine LOps.storeA ?_)
  refine LWp.loop (fun m T S' => ∃ (T' : Nat → TV) (j : Nat), j ≤ W.length ∧ m = W.length - j ∧ T = over T' [(0, .one (.sl .sh (l.map prL))), (1, .one (.sl .sh (evs.map evL))), (9, .one (.sl .sh (W.map opL))), (10, .one (.sl .sh (W.map opL))), (11, .one (iv (j : Nat)))]) W.length ?_ ?_
  · exact ⟨_, 0, by omega, by omega, holds.over ⟨rfl, rfl, rfl, rfl, rfl, trivial⟩⟩
  rintro m T S1 ⟨T', j, hj, rfl, rfl⟩
  repeat (first | refine LOps.nil ?_ | refine andThen_normal ?_ | refine andThen_exit ?_ | refine andThen_ret ?_ | refine inBlock_normal ?_ | refine inBlock_ret ?_ | refine inBlock_here ?_ | refine inBlock_out rfl ?_ | refine LWp.seq ?_ | refine LWp.region ?_ | refine LWp.block ?_ | refine LWp.exit ?_ | refine LWp.ret ?_ | refine LWp.skip ?_ | refine LOps.valA ?_ | refine LOps.outA ?_ | refine LOps.whenA ?_ | refine LOps.pickA ?_ | refine LOps.storeA ?_)
  refine LWp.cond rfl (fun h => ?_) (fun h => ?_)
  · have hlt : j < W.length := by simpa using h
    have hso := sameOp_F hP W[j] W[j] (by have := (hws _ (List.getElem_mem hlt)).n; omega)
    rw [decide_eq_true rfl] at hso
    repeat (first | refine LOps.nil ?_ | refine andThen_normal ?_ | refine andThen_exit ?_ | refine andThen_ret ?_ | refine inBlock_normal ?_ | refine inBlock_ret ?_ | refine inBlock_here ?_ | refine inBlock_out rfl ?_ | refine LWp.seq ?_ | refine LWp.region ?_ | refine LWp.block ?_ | refine LWp.exit ?_ | refine LWp.ret ?_ | refine LWp.skip ?_)
    refine LWp.drawL [0, 1, 2, 3, 4, 5, 6, 7, 8, 9] (by rw [hP]; rfl) rfl ?_
    repeat (first | refine LRl.valC (fun _ => (LVal.call rfl rfl (by rw [hP]; exact Try.func15) rfl (by decide) (hso))) ?_ | refine LRl.whenC (fun _ => (LVal.call rfl rfl (by rw [hP]; exact Try.func15) rfl (by decide) (hso))) ?_ | refine LRl.nil ?_ | refine LRl.valA ?_ | refine LRl.outA ?_ | refine LRl.whenA ?_ | refine LRl.pickA ?_)
    refine andThen_normal ?_
    repeat (first | refine LOps.nil ?_ | refine andThen_normal ?_ | refine andThen_exit ?_ | refine andThen_ret ?_ | refine inBlock_normal ?_ | refine inBlock_ret ?_ | refine inBlock_here ?_ | refine inBlock_out rfl ?_ | refine LWp.seq ?_ | refine LWp.region ?_ | refine LWp.block ?_ | refine LWp.exit ?_ | refine LWp.ret ?_ | refine LWp.skip ?_ | refine LOps.valA ?_ | refine LOps.outA ?_ | refine LOps.whenA ?_ | refine LOps.pickA ?_ | refine LOps.storeA ?_)
    refine LWp.cond rfl (fun h => ?_) (fun h => ?_)
    · cases h
    repeat (first | refine LOps.nil ?_ | refine andThen_normal ?_ | refine andThen_exit ?_ | refine andThen_ret ?_ | refine inBlock_normal ?_ | refine inBlock_ret ?_ | refine inBlock_here ?_ | refine inBlock_out rfl ?_ | refine LWp.seq ?_ | refine LWp.region ?_ | refine LWp.block ?_ | refine LWp.exit ?_ | refine LWp.ret ?_ | refine LWp.skip ?_ | refine LOps.valA ?_ | refine LOps.outA ?_ | refine LOps.whenA ?_ | refine LOps.pickA ?_ | refine LOps.storeA ?_)
    exact ⟨W.length - (j + 1), by omega, _, j + 1, by omega, rfl, holds.over ⟨rfl, rfl, rfl, rfl, rfl, trivial⟩⟩
  · have hge : j = W.length := by simp at h; omega
    subst hge
    repeat (first | refine LOps.nil ?_ | refine andThen_normal ?_ | refine andThen_exit ?_ | refine andThen_ret ?_ | refine inBlock_normal ?_ | refine inBlock_ret ?_ | refine inBlock_here ?_ | refine inBlock_out rfl ?_ | refine LWp.seq ?_ | refine LWp.region ?_ | refine LWp.block ?_ | refine LWp.exit ?_ | refine LWp.ret ?_ | refine LWp.skip ?_ | refine LOps.val (LVal.call rfl rfl (by rw [hP]; exact Try.func17) rfl (by decide) (c5)) rfl rfl rfl ?_ | refine LOps.val (LVal.call rfl rfl (by rw [hP]; exact Try.func18) rfl (by decide) (c6)) rfl rfl rfl ?_ | refine LOps.val (LVal.call rfl rfl (by rw [hP]; exact Try.func16) rfl (by decide) (cs)) rfl rfl rfl ?_ | refine LOps.val (LVal.call rfl rfl (by rw [hP]; exact Try.func10) rfl (by decide) (cw)) rfl rfl rfl ?_ | refine LOps.whenC (LVal.call rfl rfl (by rw [hP]; exact Try.func17) rfl (by decide) (c5)) ?_ | refine LOps.whenC (LVal.call rfl rfl (by rw [hP]; exact Try.func18) rfl (by decide) (c6)) ?_ | refine LOps.whenC (LVal.call rfl rfl (by rw [hP]; exact Try.func16) rfl (by decide) (cs)) ?_ | refine LOps.whenC (LVal.call rfl rfl (by rw [hP]; exact Try.func10) rfl (by decide) (cw)) ?_ | refine LOps.valA ?_ | refine LOps.outA ?_ | refine LOps.whenA ?_ | refine LOps.pickA ?_ | refine LOps.storeA ?_)
    exact ⟨_, LRes.one rfl, rfl⟩
end Go.Proofs.Ytandbjhedkgldaa.LF

namespace Go.Proofs.Ytandbjhedkgldaa
open Go.RowKit LF
theorem linearChecks_walk (W : World) (v0 : Value) (l0 : List LV) (y0 : Typed LF.D 22 l0) (g0 : RepT (G0 Try.prog W) W (allCells W) (argTV ti22 l0) v0) (v1 : Value) (l1 : List LV) (y1 : Typed LF.D 23 l1) (g1 : RepT (G0 Try.prog W) W (allCells W) (argTV ti23 l1) v1) :
    Calls Try.prog 3 #[v0, v1] W fun e W' => e = .returned (.bool true) ∧ Below W.heap.size W W' := by
  obtain ⟨l, rfl⟩ := LF.typed_prs y0
  obtain ⟨evs, rfl⟩ := H.typed_evs y1
  exact law_calls (fun G S h => checks8_L h l evs S) (.cons (vs := [v1]) g0 (.cons (vs := []) g1 .nil))
end Go.Proofs.Ytandbjhedkgldaa
