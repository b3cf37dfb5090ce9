/- The laws' words of layer 8: Great, small, wakes; the document's Witness. -/
import Derived.Test.YtandbjhedkgldaaLLk
namespace Go.Proofs.Ytandbjhedkgldaa.LF
open Go.RowKit H
set_option linter.unusedVariables false
attribute [local irreducible] andThen inBlock LWp LOps LCalls

def bigE (e : Ev) : Bool := (greatO e.op || decide ((e.ans.key.size : Int) > 500)) || decide ((e.ans.val.size : Int) > 500)
def great8S (l : List Pr) (evs : List Ev) : Bool := (decide ((evs.length : Int) > 200) || greatS l []) || evs.any bigE

set_option maxHeartbeats 4000000 in
theorem great8_F {G : Ctx} (hP : G.P = Try.prog) (l : List Pr) (evs : List Ev) : LFun G 9 [.one (.sl .sh (l.map prL)), .one (.sl .sh (evs.map evL))] (.one (bv (great8S l evs))) := LFun.of fun S => by
  have hD : TabOK G.P D := by rw [hP]; exact hD0
  have hme : (evs.map evL).length = evs.length := List.length_map ..
  refine LCalls.enter (fn := Try.f9) (by rw [hP]; exact Try.func9) rfl rfl ?_
  repeat (first | refine LOps.nil ?_ | refine andThen_normal ?_ | refine andThen_exit ?_ | refine andThen_ret ?_ | refine inBlock_normal ?_ | refine inBlock_ret ?_ | refine inBlock_here ?_ | refine inBlock_out rfl ?_ | refine LWp.seq ?_ | refine LWp.region ?_ | refine LWp.block ?_ | refine LWp.exit ?_ | refine LWp.ret ?_ | refine LWp.skip ?_ | refine LOps.val (LVal.call rfl rfl (by rw [hP]; exact Try.func25) rfl (by decide) (LF.great_F hP l [])) rfl rfl rfl ?_ | refine LOps.whenC (LVal.call rfl rfl (by rw [hP]; exact Try.func25) rfl (by decide) (LF.great_F hP l [])) ?_ | refine LOps.valA ?_ | refine LOps.outA ?_ | refine LOps.whenA ?_ | refine LOps.pickA ?_ | refine LOps.storeA ?_)
  refine LWp.cond rfl (fun h => ?_) (fun h => ?_)
  · have h : (decide (((evs.map evL).length : Int) > 200) || greatS l []) = true := h
    rw [hme] at h
    repeat (first | refine LOps.nil ?_ | refine andThen_normal ?_ | refine andThen_exit ?_ | refine andThen_ret ?_ | refine inBlock_normal ?_ | refine inBlock_ret ?_ | refine inBlock_here ?_ | refine inBlock_out rfl ?_ | refine LWp.seq ?_ | refine LWp.region ?_ | refine LWp.block ?_ | refine LWp.exit ?_ | refine LWp.ret ?_ | refine LWp.skip ?_ | refine LOps.valA ?_ | refine LOps.outA ?_ | refine LOps.whenA ?_ | refine LOps.pickA ?_ | refine LOps.storeA ?_)
    exact ⟨_, LRes.one rfl, by rw [great8S, h]; rfl, .refl _⟩
  have h0 : (decide (((evs.map evL).length : Int) > 200) || greatS l []) = false := h
  rw [hme] at h0
  have hb := h0
  rw [Bool.or_eq_false_iff, decide_eq_false_iff_not] at hb
  clear h
  repeat (first | refine LOps.nil ?_ | refine andThen_normal ?_ | refine andThen_exit ?_ | refine andThen_ret ?_ | refine inBlock_normal ?_ | refine inBlock_ret ?_ | refine inBlock_here ?_ | refine inBlock_out rfl ?_ | refine LWp.seq ?_ | refine LWp.region ?_ | refine LWp.block ?_ | refine LWp.exit ?_ | refine LWp.ret ?_ | refine LWp.skip ?_ | refine LOps.valA ?_ | refine LOps.outA ?_ | refine LOps.whenA ?_ | refine LOps.pickA ?_ | refine LOps.storeA ?_)
  refine LWp.loop (fun m T S' => S' = S ∧ ∃ (T' : Nat → TV) (j : Nat), j ≤ evs.length ∧ m = evs.length - j ∧ (∀ (i : Nat) (hi : i < j) (h1 : i < evs.length), bigE evs[i] = false) ∧ T = over T' [(1, .one (.sl .sh (evs.map evL))), (5, .one (iv (j : Nat)))]) evs.length ?_ ?_
  · exact ⟨rfl, _, 0, by omega, by omega, fun i hi => by omega, holds.over ⟨rfl, rfl, trivial⟩⟩
  rintro m T S ⟨rfl, T', j, hj, rfl, hno, rfl⟩
  repeat (first | refine LOps.nil ?_ | refine andThen_normal ?_ | refine andThen_exit ?_ | refine andThen_ret ?_ | refine inBlock_normal ?_ | refine inBlock_ret ?_ | refine inBlock_here ?_ | refine inBlock_out rfl ?_ | refine LWp.seq ?_ | refine LWp.region ?_ | refine LWp.block ?_ | refine LWp.exit ?_ | refine LWp.ret ?_ | refine LWp.skip ?_ | refine LOps.valA ?_ | refine LOps.outA ?_ | refine LOps.whenA ?_ | refine LOps.pickA ?_ | refine LOps.storeA ?_)
  refine LWp.cond rfl (fun h => ?_) (fun h => ?_)
  · have hlt : j < evs.length := by simpa using h
    repeat (first | refine LOps.nil ?_ | refine andThen_normal ?_ | refine andThen_exit ?_ | refine andThen_ret ?_ | refine inBlock_normal ?_ | refine inBlock_ret ?_ | refine inBlock_here ?_ | refine inBlock_out rfl ?_ | refine LWp.seq ?_ | refine LWp.region ?_ | refine LWp.block ?_ | refine LWp.exit ?_ | refine LWp.ret ?_ | refine LWp.skip ?_ | refine LOps.val (LVal.call rfl rfl (by rw [hP]; exact Try.func26) rfl (by decide) (greatO_F hP _)) rfl rfl rfl ?_ | refine LOps.whenC (LVal.call rfl rfl (by rw [hP]; exact Try.func26) rfl (by decide) (greatO_F hP _)) ?_ | refine LOps.valA ?_ | refine LOps.outA ?_ | refine LOps.whenA ?_ | refine LOps.pickA ?_ | refine LOps.storeA ?_)
    refine LWp.cond rfl (fun h => ?_) (fun h => ?_)
    · have h : bigE evs[j] = true := h
      repeat (first | refine LOps.nil ?_ | refine andThen_normal ?_ | refine andThen_exit ?_ | refine andThen_ret ?_ | refine inBlock_normal ?_ | refine inBlock_ret ?_ | refine inBlock_here ?_ | refine inBlock_out rfl ?_ | refine LWp.seq ?_ | refine LWp.region ?_ | refine LWp.block ?_ | refine LWp.exit ?_ | refine LWp.ret ?_ | refine LWp.skip ?_ | refine LOps.valA ?_ | refine LOps.outA ?_ | refine LOps.whenA ?_ | refine LOps.pickA ?_ | refine LOps.storeA ?_)
      exact ⟨_, LRes.one rfl, by rw [great8S, any_at hlt h, Bool.or_true]; rfl, .refl _⟩
    have h : bigE evs[j] = false := h
    repeat (first | refine LOps.nil ?_ | refine andThen_normal ?_ | refine andThen_exit ?_ | refine andThen_ret ?_ | refine inBlock_normal ?_ | refine inBlock_ret ?_ | refine inBlock_here ?_ | refine inBlock_out rfl ?_ | refine LWp.seq ?_ | refine LWp.region ?_ | refine LWp.block ?_ | refine LWp.exit ?_ | refine LWp.ret ?_ | refine LWp.skip ?_ | refine LOps.valA ?_ | refine LOps.outA ?_ | refine LOps.whenA ?_ | refine LOps.pickA ?_ | refine LOps.storeA ?_)
    refine ⟨evs.length - (j + 1), by omega, rfl, _, j + 1, by omega, rfl, fun i hi h1 => ?_, holds.over ⟨rfl, rfl, trivial⟩⟩
    by_cases e : i = j
    · subst e; exact h
    · exact hno i (by omega) h1
  · have hge : j = evs.length := by simp at h; omega
    subst hge
    repeat (first | refine LOps.nil ?_ | refine andThen_normal ?_ | refine andThen_exit ?_ | refine andThen_ret ?_ | refine inBlock_normal ?_ | refine inBlock_ret ?_ | refine inBlock_here ?_ | refine inBlock_out rfl ?_ | refine LWp.seq ?_ | refine LWp.region ?_ | refine LWp.block ?_ | refine LWp.exit ?_ | refine LWp.ret ?_ | refine LWp.skip ?_ | refine LOps.valA ?_ | refine LOps.outA ?_ | refine LOps.whenA ?_ | refine LOps.pickA ?_ | refine LOps.storeA ?_)
    exact ⟨_, LRes.one rfl, by rw [great8S, h0, any_of (fun i hi => hno i hi hi)]; rfl, .refl _⟩
theorem ok8_of {l : List Pr} {evs : List Ev} (h : great8S l evs = false) : Ok8 l evs := by
  unfold great8S at h
  rw [Bool.or_eq_false_iff, Bool.or_eq_false_iff, decide_eq_false_iff_not, List.any_eq_false] at h
  obtain ⟨⟨h1, h2⟩, h3⟩ := h
  have hf := fine_of h2
  refine ⟨hf.nl, hf.ps, by omega, fun e he => ?_⟩
  have := h3 e he
  simp only [bigE, Bool.or_eq_true, not_or, Bool.not_eq_true] at this
  exact fineO_of this.1.1

def smA (b : Bool) : Ans := if b then ⟨0, true, noBytes, { data := #[49] }⟩ else noAns
def smallE (b : Bool) : List Ev := [⟨1, 1, ⟨2, { data := #[97] }, { data := #[49] }, noBytes, false, false, []⟩, noAns⟩, ⟨1, 2, ⟨1, { data := #[97] }, noBytes, noBytes, false, false, []⟩, noAns⟩, ⟨2, 1, noOp, noAns⟩, ⟨2, 2, noOp, smA b⟩, ⟨3, 1, noOp, noAns⟩, ⟨3, 2, noOp, smA b⟩]

set_option maxHeartbeats 4000000 in
theorem small_F {G : Ctx} (hP : G.P = Try.prog) (b : Bool) : LFun G 27 [.one (bv b)] (.one (.sl .sh ((smallE b).map evL))) := LFun.of fun S => by
  have hD : TabOK G.P D := by rw [hP]; exact hD0
  refine LCalls.enter (fn := Try.f27) (by rw [hP]; exact Try.func27) rfl rfl ?_
  repeat (first | refine LOps.nil ?_ | refine andThen_normal ?_ | refine andThen_exit ?_ | refine andThen_ret ?_ | refine inBlock_normal ?_ | refine inBlock_ret ?_ | refine inBlock_here ?_ | refine inBlock_out rfl ?_ | refine LWp.seq ?_ | refine LWp.region ?_ | refine LWp.block ?_ | refine LWp.exit ?_ | refine LWp.ret ?_ | refine LWp.skip ?_ | refine LOps.valA ?_ | refine LOps.outA ?_ | refine LOps.whenA ?_ | refine LOps.pickA ?_ | refine LOps.storeA ?_)
  refine LOps.do (LDo.alloc hD rfl rfl rfl) rfl rfl rfl ?_
  rintro _ _ ⟨b3, hb3, rfl, rfl⟩
  have hle8 : ∀ z cs, S.le ((S.newBox b3 z).setBox b3 cs) := fun z cs => (LS.le.newBox (.refl _) hb3 z).setBox hb3.box cs
  have s3 := hb3.box
  repeat (first | refine LOps.nil ?_ | refine andThen_normal ?_ | refine andThen_exit ?_ | refine andThen_ret ?_ | refine inBlock_normal ?_ | refine inBlock_ret ?_ | refine inBlock_here ?_ | refine inBlock_out rfl ?_ | refine LWp.seq ?_ | refine LWp.region ?_ | refine LWp.block ?_ | refine LWp.exit ?_ | refine LWp.ret ?_ | refine LWp.skip ?_ | refine LOps.valA ?_ | refine LOps.outA ?_ | refine LOps.whenA ?_ | refine LOps.pickA ?_ | refine LOps.storeA ?_)
  refine LWp.cond rfl (fun h => ?_) (fun h => ?_)
  · subst h
    repeat (first | refine LOps.valH (LVal.shTo (LVal.build hD rfl rfl rfl rfl rfl rfl rfl) rfl) ?_ | refine LOps.val (r := .one (.sl .sh ((smallE true).map evL))) (LVal.to (LVal.buildSlice hD rfl rfl rfl rfl rfl rfl rfl rfl rfl rfl) rfl) rfl rfl rfl ?_ | refine LOps.nil ?_ | refine andThen_normal ?_ | refine andThen_exit ?_ | refine andThen_ret ?_ | refine inBlock_normal ?_ | refine inBlock_ret ?_ | refine inBlock_here ?_ | refine inBlock_out rfl ?_ | refine LWp.seq ?_ | refine LWp.region ?_ | refine LWp.block ?_ | refine LWp.exit ?_ | refine LWp.ret ?_ | refine LWp.skip ?_ | refine LOps.valA ?_ | refine LOps.outA ?_ | refine LOps.whenA ?_ | refine LOps.pickA ?_ | refine LOps.storeA ?_)
    exact ⟨_, LRes.sh (LRes.one rfl), rfl, (hle8 _ _).setBox s3 _⟩
  · subst h
    repeat (first | refine LOps.valH (LVal.shTo (LVal.build hD rfl rfl rfl rfl rfl rfl rfl) rfl) ?_ | refine LOps.val (r := .one (.sl .sh ((smallE false).map evL))) (LVal.to (LVal.buildSlice hD rfl rfl rfl rfl rfl rfl rfl rfl rfl rfl) rfl) rfl rfl rfl ?_ | refine LOps.nil ?_ | refine andThen_normal ?_ | refine andThen_exit ?_ | refine andThen_ret ?_ | refine inBlock_normal ?_ | refine inBlock_ret ?_ | refine inBlock_here ?_ | refine inBlock_out rfl ?_ | refine LWp.seq ?_ | refine LWp.region ?_ | refine LWp.block ?_ | refine LWp.exit ?_ | refine LWp.ret ?_ | refine LWp.skip ?_ | refine LOps.valA ?_ | refine LOps.outA ?_ | refine LOps.whenA ?_ | refine LOps.pickA ?_ | refine LOps.storeA ?_)
    exact ⟨_, LRes.sh (LRes.one rfl), rfl, hle8 _ _⟩

theorem wk_a : checkL [] (smallE true) = (-1, 0) := by decide +kernel
theorem wk_b : checkL [] (smallE false) = (3, 32) := by decide +kernel
theorem wk_c : someS [] (smallE true) = true := by decide +kernel
theorem wk_d : someS [] (smallE false) = true := by decide +kernel
theorem wk_e : (afterL [] (smallE true)).length = 1 := by decide +kernel
theorem wk_f : (witS (smallE true)).length = 2 := by decide +kernel

set_option maxHeartbeats 4000000 in
theorem wakes8_F {G : Ctx} (hP : G.P = Try.prog) : LFun G 10 [] (.one (bv true)) := LFun.of fun S => by
  have hD : TabOK G.P D := by rw [hP]; exact hD0
  have ca := LF.check_F hP [] (by decide) (smallE true) (by decide)
  rw [wk_a] at ca
  have cb := LF.check_F hP [] (by decide) (smallE false) (by decide)
  rw [wk_b] at cb
  have cc := some_F hP [] (by decide) (smallE true) (by decide)
  rw [wk_c] at cc
  have cd := some_F hP [] (by decide) (smallE false) (by decide)
  rw [wk_d] at cd
  have ce := after_F hP [] (by decide) (smallE true) (by decide)
  have cf := witness_F hP (smallE true) (by decide) (by decide)
  have he := wk_e
  have hf := wk_f
  generalize afterL [] (smallE true) = A at *
  generalize witS (smallE true) = W at *
  refine LCalls.enter (fn := Try.f10) (by rw [hP]; exact Try.func10) rfl rfl ?_
  repeat (first | refine LOps.nil ?_ | refine andThen_normal ?_ | refine andThen_exit ?_ | refine andThen_ret ?_ | refine inBlock_normal ?_ | refine inBlock_ret ?_ | refine inBlock_here ?_ | refine inBlock_out rfl ?_ | refine LWp.seq ?_ | refine LWp.region ?_ | refine LWp.block ?_ | refine LWp.exit ?_ | refine LWp.ret ?_ | refine LWp.skip ?_ | refine LOps.val (LVal.call rfl rfl (by rw [hP]; exact Try.func27) rfl (by decide) (small_F hP true)) rfl rfl rfl ?_ | refine LOps.val (LVal.call rfl rfl (by rw [hP]; exact Try.func27) rfl (by decide) (small_F hP false)) rfl rfl rfl ?_ | refine LOps.val (LVal.call rfl rfl (by rw [hP]; exact Try.func11) rfl (by decide) (ca)) rfl rfl rfl ?_ | refine LOps.val (LVal.call rfl rfl (by rw [hP]; exact Try.func11) rfl (by decide) (cb)) rfl rfl rfl ?_ | refine LOps.val (LVal.call rfl rfl (by rw [hP]; exact Try.func19) rfl (by decide) (cc)) rfl rfl rfl ?_ | refine LOps.val (LVal.call rfl rfl (by rw [hP]; exact Try.func19) rfl (by decide) (cd)) rfl rfl rfl ?_ | refine LOps.val (LVal.call rfl rfl (by rw [hP]; exact Try.func17) rfl (by decide) (ce)) rfl rfl rfl ?_ | refine LOps.val (LVal.call rfl rfl (by rw [hP]; exact Try.func13) rfl (by decide) (cf)) rfl rfl rfl ?_ | refine LOps.whenC (LVal.call rfl rfl (by rw [hP]; exact Try.func27) rfl (by decide) (small_F hP true)) ?_ | refine LOps.whenC (LVal.call rfl rfl (by rw [hP]; exact Try.func27) rfl (by decide) (small_F hP false)) ?_ | refine LOps.whenC (LVal.call rfl rfl (by rw [hP]; exact Try.func11) rfl (by decide) (ca)) ?_ | refine LOps.whenC (LVal.call rfl rfl (by rw [hP]; exact Try.func11) rfl (by decide) (cb)) ?_ | refine LOps.whenC (LVal.call rfl rfl (by rw [hP]; exact Try.func19) rfl (by decide) (cc)) ?_ | refine LOps.whenC (LVal.call rfl rfl (by rw [hP]; exact Try.func19) rfl (by decide) (cd)) ?_ | refine LOps.whenC (LVal.call rfl rfl (by rw [hP]; exact Try.func17) rfl (by decide) (ce)) ?_ | refine LOps.whenC (LVal.call rfl rfl (by rw [hP]; exact Try.func13) rfl (by decide) (cf)) ?_ | refine LOps.valA ?_ | refine LOps.outA ?_ | refine LOps.whenA ?_ | refine LOps.pickA ?_ | refine LOps.storeA ?_)
  refine ⟨_, LRes.one rfl, isTrue _ ?_, .refl _⟩
  simp [he, hf]
end Go.Proofs.Ytandbjhedkgldaa.LF
