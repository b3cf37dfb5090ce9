/- linear.After, linear.Witness; the document's Witness, ids, in. -/
import Derived.Test.YtandbjhedkgldaaLLc
import Derived.Test.YtandbjhedkgldaaQHn
import Derived.Test.YtandbjhedkgldaaQOn
namespace Go.Proofs.Ytandbjhedkgldaa.LF
open Go.RowKit H
set_option linter.unusedVariables false

def afterL (l : List Pr) (evs : List Ev) : List Pr := if ((checkS (fun _ => noKn) evs 0).2 != 0) = true then [] else (wit l evs).1
set_option maxHeartbeats 4000000 in
theorem after_F {G : Ctx} (hP : G.P = Try.prog) (l : List Pr) (hl : l.length ≤ 1000) (evs : List Ev) (hr : evs.length ≤ 1000) :
    LFun G 17 [.one (.sl .sh (l.map prL)), .one (.sl .sh (evs.map evL))] (.one (.sl .sh ((afterL l evs).map prL))) := LFun.of fun S => by
  have hD : TabOK G.P D := by rw [hP]; exact hD0
  refine LCalls.enter (fn := Try.f17) (by rw [hP]; exact Try.func17) rfl rfl ?_
  repeat (first | refine LOps.nil ?_ | refine andThen_normal ?_ | refine andThen_exit ?_ | refine andThen_ret ?_ | refine inBlock_normal ?_ | refine inBlock_ret ?_ | refine inBlock_here ?_ | refine inBlock_out rfl ?_ | refine LWp.seq ?_ | refine LWp.region ?_ | refine LWp.block ?_ | refine LWp.exit ?_ | refine LWp.ret ?_ | refine LWp.skip ?_ | refine LOps.val (LVal.call rfl rfl (by rw [hP]; exact Try.func21) rfl (by decide) (H.check_F hP evs (by omega))) rfl rfl rfl ?_ | refine LOps.whenC (LVal.call rfl rfl (by rw [hP]; exact Try.func21) rfl (by decide) (H.check_F hP evs (by omega))) ?_ | refine LOps.valA ?_ | refine LOps.outA ?_ | refine LOps.whenA ?_ | refine LOps.pickA ?_ | refine LOps.storeA ?_)
  refine LWp.cond rfl (fun h => ?_) (fun h => ?_)
  · have e : afterL l evs = [] := if_pos h
    rw [e]
    repeat (first | refine LOps.nil ?_ | refine andThen_normal ?_ | refine andThen_exit ?_ | refine andThen_ret ?_ | refine inBlock_normal ?_ | refine inBlock_ret ?_ | refine inBlock_here ?_ | refine inBlock_out rfl ?_ | refine LWp.seq ?_ | refine LWp.region ?_ | refine LWp.block ?_ | refine LWp.exit ?_ | refine LWp.ret ?_ | refine LWp.skip ?_ | refine LOps.valA ?_ | refine LOps.outA ?_ | refine LOps.whenA ?_ | refine LOps.pickA ?_ | refine LOps.storeA ?_)
    exact ⟨_, LRes.sh (LRes.one rfl), rfl, .refl _⟩
  have e : afterL l evs = (wit l evs).1 := if_neg (by rw [show ((checkS (fun _ => noKn) evs 0).2 != 0) = false from h]; decide)
  rw [e]
  have hwl := wit_length l evs
  repeat (first | refine LOps.nil ?_ | refine andThen_normal ?_ | refine andThen_exit ?_ | refine andThen_ret ?_ | refine inBlock_normal ?_ | refine inBlock_ret ?_ | refine inBlock_here ?_ | refine inBlock_out rfl ?_ | refine LWp.seq ?_ | refine LWp.region ?_ | refine LWp.block ?_ | refine LWp.exit ?_ | refine LWp.ret ?_ | refine LWp.skip ?_ | refine LOps.valA ?_ | refine LOps.outA ?_ | refine LOps.whenA ?_ | refine LOps.pickA ?_ | refine LOps.storeA ?_)
  refine LOps.do (LDo.callX (run_L hP l hl evs hr S) (by rw [hP]; exact Try.func28)) rfl rfl rfl ?_
  rintro _ S1 ⟨b, X, rfl, m, nw⟩
  repeat (first | refine LOps.nil ?_ | refine andThen_normal ?_ | refine andThen_exit ?_ | refine andThen_ret ?_ | refine inBlock_normal ?_ | refine inBlock_ret ?_ | refine inBlock_here ?_ | refine inBlock_out rfl ?_ | refine LWp.seq ?_ | refine LWp.region ?_ | refine LWp.block ?_ | refine LWp.exit ?_ | refine LWp.ret ?_ | refine LWp.skip ?_ | refine LOps.valA ?_ | refine LOps.outA ?_ | refine LOps.whenA ?_ | refine LOps.pickA ?_ | refine LOps.storeA ?_)
  refine LOps.do (LDo.callX (allV_L hP _ (by omega) b X _ m) (by rw [hP]; exact Try.func36)) rfl rfl rfl ?_
  rintro _ _ ⟨rfl, rfl⟩
  repeat (first | refine LOps.nil ?_ | refine andThen_normal ?_ | refine andThen_exit ?_ | refine andThen_ret ?_ | refine inBlock_normal ?_ | refine inBlock_ret ?_ | refine inBlock_here ?_ | refine inBlock_out rfl ?_ | refine LWp.seq ?_ | refine LWp.region ?_ | refine LWp.block ?_ | refine LWp.exit ?_ | refine LWp.ret ?_ | refine LWp.skip ?_ | refine LOps.valA ?_ | refine LOps.outA ?_ | refine LOps.whenA ?_ | refine LOps.pickA ?_ | refine LOps.storeA ?_)
  exact ⟨_, LRes.sh (LRes.one rfl), rfl, nw.le⟩

def opOf (l : List Ev) (id : Int) : OpV := (findE l 1 id).op
def witS (l : List Ev) : List OpV := if ((checkS (fun _ => noKn) l 0).2 != 0) = true then [] else (marksS l).map (opOf l)
theorem map_take_succ {α β : Type} (f : α → β) {l : List α} {j : Nat} (h : j < l.length) : (l.take (j + 1)).map f = (l.take j).map f ++ [f l[j]] := by
  rw [List.take_succ_eq_append_getElem h, List.map_append]; rfl

set_option maxHeartbeats 4000000 in
theorem witness_F {G : Ctx} (hP : G.P = Try.prog) (l : List Ev) (hl : l.length ≤ 1000) (hw : ∀ e ∈ l, e.op.writes.length ≤ 1000000) :
    LFun G 13 [.one (.sl .sh (l.map evL))] (.one (.sl .sh ((witS l).map opL))) := LFun.of fun S => by
  have hD : TabOK G.P D := by rw [hP]; exact hD0
  have hml := marks_len l
  refine LCalls.enter (fn := Try.f13) (by rw [hP]; exact Try.func13) rfl rfl ?_
  repeat (first | refine LOps.nil ?_ | refine andThen_normal ?_ | refine andThen_exit ?_ | refine andThen_ret ?_ | refine inBlock_normal ?_ | refine inBlock_ret ?_ | refine inBlock_here ?_ | refine inBlock_out rfl ?_ | refine LWp.seq ?_ | refine LWp.region ?_ | refine LWp.block ?_ | refine LWp.exit ?_ | refine LWp.ret ?_ | refine LWp.skip ?_ | refine LOps.val (LVal.call rfl rfl (by rw [hP]; exact Try.func21) rfl (by decide) (H.check_F hP l (by omega))) rfl rfl rfl ?_ | refine LOps.whenC (LVal.call rfl rfl (by rw [hP]; exact Try.func21) rfl (by decide) (H.check_F hP l (by omega))) ?_ | refine LOps.valA ?_ | refine LOps.outA ?_ | refine LOps.whenA ?_ | refine LOps.pickA ?_ | refine LOps.storeA ?_)
  refine LWp.cond rfl (fun h => ?_) (fun h => ?_)
  · have e : witS l = [] := if_pos h
    rw [e]
    repeat (first | refine LOps.nil ?_ | refine andThen_normal ?_ | refine andThen_exit ?_ | refine andThen_ret ?_ | refine inBlock_normal ?_ | refine inBlock_ret ?_ | refine inBlock_here ?_ | refine inBlock_out rfl ?_ | refine LWp.seq ?_ | refine LWp.region ?_ | refine LWp.block ?_ | refine LWp.exit ?_ | refine LWp.ret ?_ | refine LWp.skip ?_ | refine LOps.valA ?_ | refine LOps.outA ?_ | refine LOps.whenA ?_ | refine LOps.pickA ?_ | refine LOps.storeA ?_)
    exact ⟨_, LRes.sh (LRes.one rfl), rfl, .refl _⟩
  have e : witS l = (marksS l).map (opOf l) := if_neg (by rw [show ((checkS (fun _ => noKn) l 0).2 != 0) = false from h]; decide)
  rw [e]
  repeat (first | refine LOps.nil ?_ | refine andThen_normal ?_ | refine andThen_exit ?_ | refine andThen_ret ?_ | refine inBlock_normal ?_ | refine inBlock_ret ?_ | refine inBlock_here ?_ | refine inBlock_out rfl ?_ | refine LWp.seq ?_ | refine LWp.region ?_ | refine LWp.block ?_ | refine LWp.exit ?_ | refine LWp.ret ?_ | refine LWp.skip ?_ | refine LOps.val (LVal.call rfl rfl (by rw [hP]; exact Try.func34) rfl (by decide) (marks_F hP l (by omega))) rfl rfl rfl ?_ | refine LOps.whenC (LVal.call rfl rfl (by rw [hP]; exact Try.func34) rfl (by decide) (marks_F hP l (by omega))) ?_ | refine LOps.valA ?_ | refine LOps.outA ?_ | refine LOps.whenA ?_ | refine LOps.pickA ?_ | refine LOps.storeA ?_)
  refine LWp.loop (fun k T S' => ∃ T' j o', j ≤ (marksS l).length ∧ k = (marksS l).length - j ∧ S.le S' ∧ Owned S' 34 j o' ∧ Out S o' ∧ T = over T' [(0, .one (.sl .sh (l.map evL))), (5, .one (.sl o' ((((marksS l).take j).map (opOf l)).map opL))), (19, .one (.sl .sh (iL (marksS l)))), (20, .one (iv (marksS l).length)), (21, .one (iv j))]) (marksS l).length ?_ ?_
  · exact ⟨_, 0, .nil, by omega, by omega, .refl _, rfl, .nil _, holds.over ⟨rfl, rfl, rfl, by show TV.one (iv ((iL (marksS l)).length : Int)) = _; rw [List.length_map], rfl, trivial⟩⟩
  rintro k T S' ⟨T', j, o', hj, rfl, hle, hown, hout, rfl⟩
  repeat (first | refine LOps.nil ?_ | refine andThen_normal ?_ | refine andThen_exit ?_ | refine andThen_ret ?_ | refine inBlock_normal ?_ | refine inBlock_ret ?_ | refine inBlock_here ?_ | refine inBlock_out rfl ?_ | refine LWp.seq ?_ | refine LWp.region ?_ | refine LWp.block ?_ | refine LWp.exit ?_ | refine LWp.ret ?_ | refine LWp.skip ?_ | refine LOps.valA ?_ | refine LOps.outA ?_ | refine LOps.whenA ?_ | refine LOps.pickA ?_ | refine LOps.storeA ?_)
  refine LWp.cond rfl (fun h => ?_) (fun h => ?_)
  · have hlt : j < (marksS l).length := by simpa using h
    repeat (first | refine LOps.nil ?_ | refine andThen_normal ?_ | refine andThen_exit ?_ | refine andThen_ret ?_ | refine inBlock_normal ?_ | refine inBlock_ret ?_ | refine inBlock_here ?_ | refine inBlock_out rfl ?_ | refine LWp.seq ?_ | refine LWp.region ?_ | refine LWp.block ?_ | refine LWp.exit ?_ | refine LWp.ret ?_ | refine LWp.skip ?_ | refine LOps.val (LVal.call rfl rfl (by rw [hP]; exact Try.func22) rfl (by decide) (state_F hP l (by omega) hw (marksS l)[j])) rfl rfl rfl ?_ | refine LOps.whenC (LVal.call rfl rfl (by rw [hP]; exact Try.func22) rfl (by decide) (state_F hP l (by omega) hw (marksS l)[j])) ?_ | refine LOps.valA ?_ | refine LOps.outA ?_ | refine LOps.whenA ?_ | refine LOps.pickA ?_ | refine LOps.storeA ?_)
    refine LOps.do (LDo.alloc hD rfl rfl rfl) rfl rfl rfl ?_
    rintro _ _ ⟨b8, hb8, rfl, rfl⟩
    have s8 := hle.none hb8
    refine LOps.do (LDo.alloc hD rfl rfl rfl) rfl rfl rfl ?_
    rintro _ _ ⟨b9, hb9, rfl, rfl⟩
    have s9 := (hle.newBox hb8 _).none hb9
    have n89 : b8 ≠ b9 := fresh_ne hb9 (box_new _ _ _)
    have n98 := n89.symm
    have l8 := (((hle.newBox hb8 (lzero ti34)).newBox hb9 (lzero ti38)).setBox s8 (opL (findE l 1 (marksS l)[j]).op)).setBox s9 (ansL (findE l 2 (marksS l)[j]).ans)
    repeat (first | refine LOps.nil ?_ | refine andThen_normal ?_ | refine andThen_exit ?_ | refine andThen_ret ?_ | refine inBlock_normal ?_ | refine inBlock_ret ?_ | refine inBlock_here ?_ | refine inBlock_out rfl ?_ | refine LWp.seq ?_ | refine LWp.region ?_ | refine LWp.block ?_ | refine LWp.exit ?_ | refine LWp.ret ?_ | refine LWp.skip ?_ | refine LOps.valA ?_ | refine LOps.outA ?_ | refine LOps.whenA ?_ | refine LOps.pickA ?_ | refine LOps.storeA ?_)
    refine LOps.do (LDo.push hD rfl rfl rfl rfl rfl rfl rfl rfl rfl rfl (show _ = j by simp; omega) hown (by omega)) rfl rfl rfl ?_
    rintro _ S3 ⟨o3, rfl, own3, hup, hno⟩
    repeat (first | refine LOps.nil ?_ | refine andThen_normal ?_ | refine andThen_exit ?_ | refine andThen_ret ?_ | refine inBlock_normal ?_ | refine inBlock_ret ?_ | refine inBlock_here ?_ | refine inBlock_out rfl ?_ | refine LWp.seq ?_ | refine LWp.region ?_ | refine LWp.block ?_ | refine LWp.exit ?_ | refine LWp.ret ?_ | refine LWp.skip ?_ | refine LOps.valA ?_ | refine LOps.outA ?_ | refine LOps.whenA ?_ | refine LOps.pickA ?_ | refine LOps.storeA ?_)
    refine ⟨(marksS l).length - (j + 1), by omega, _, j + 1, o3, by omega, rfl, l8.upto hup hout, own3, hout.next l8 hno, holds.over ⟨rfl, ?_, rfl, rfl, rfl, trivial⟩⟩
    rw [map_take_succ _ hlt, List.map_append]; rfl
  · have hge : (marksS l).length ≤ j := by simpa using h
    repeat (first | refine LOps.nil ?_ | refine andThen_normal ?_ | refine andThen_exit ?_ | refine andThen_ret ?_ | refine inBlock_normal ?_ | refine inBlock_ret ?_ | refine inBlock_here ?_ | refine inBlock_out rfl ?_ | refine LWp.seq ?_ | refine LWp.region ?_ | refine LWp.block ?_ | refine LWp.exit ?_ | refine LWp.ret ?_ | refine LWp.skip ?_ | refine LOps.valA ?_ | refine LOps.outA ?_ | refine LOps.whenA ?_ | refine LOps.pickA ?_ | refine LOps.storeA ?_)
    refine ⟨_, LRes.sh (LRes.one rfl), ?_, hle⟩
    rw [List.take_of_length_le hge]; rfl
end Go.Proofs.Ytandbjhedkgldaa.LF
