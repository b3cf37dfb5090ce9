/- LinearSure: plain, and the walk. -/
import Derived.Test.YtandbjhedkgldaaLLq
namespace Go.Proofs.Ytandbjhedkgldaa.LF
open Go.RowKit H
set_option linter.unusedVariables false

theorem checkL_ok {l : List Pr} {evs : List Ev} (h : (checkL l evs).2 = 0) : (checkS (fun _ => noKn) evs 0).2 = 0 ∧ (wit l evs).2 < 0 := by
  unfold checkL at h
  by_cases c : ((checkS (fun _ => noKn) evs 0).2 != 0) = true
  · rw [if_pos c] at h
    rw [h] at c; cases c
  · rw [if_neg c] at h
    refine ⟨by simpa using c, ?_⟩
    by_cases c2 : decide ((wit l evs).2 ≥ 0) = true
    · rw [if_pos c2] at h; cases h
    · have := of_decide_eq_false (Bool.not_eq_true _ ▸ c2 : decide ((wit l evs).2 ≥ 0) = false)
      omega
theorem checkL_of {l : List Pr} {evs : List Ev} (h1 : okS (fun _ => noKn) evs) (h2 : (wit l evs).2 < 0) : checkL l evs = (-1, 0) := by
  unfold checkL
  rw [check_of_ok h1, if_neg (by decide), if_neg (by simp; omega)]
theorem runStep_congr {f g : Int → OpV} {e : Ev} {j : Nat} {s : List Pr × Int} (h : e.kind = 2 → f e.id = g e.id) : runStep f e j s = runStep g e j s := by
  unfold runStep
  by_cases c : ((e.kind != 2) || idleS e.ans) = true
  · rw [if_pos c, if_pos c]
  · have hk : e.kind = 2 := by
      by_cases h2 : e.kind = 2
      · exact h2
      · exact absurd (by simp [h2]) c
    rw [if_neg c, if_neg c, h hk]
theorem opOf_take {l : List Ev} {n : Nat} {id : Int} (h : hasE (l.take n) 1 id = true) : opOf l id = opOf (l.take n) id := by
  unfold opOf findE
  conv => lhs; rw [← List.take_append_drop n l, List.find?_append]
  unfold hasE at h
  cases hq : (l.take n).find? (isEv 1 id) with
  | none => rw [hq] at h; cases h
  | some e => rfl
theorem runT_take {l : List Ev} (R : Right l) (n : Nat) (m : List Pr) : ∀ k, k ≤ n → k ≤ l.length → runT (opOf (l.take n)) (l.take n) m k = runT (opOf l) l m k
  | 0, _, _ => rfl
  | k + 1, hn, hk => by
    have ih := runT_take R n m k (by omega) (by omega)
    have hlt : k < l.length := by omega
    rw [runT_succ _ m (show k < (l.take n).length by rw [List.length_take]; omega), runT_succ _ m hlt, ih, List.getElem_take]
    refine runStep_congr fun h2 => ?_
    obtain ⟨b, hb, hbk, h1⟩ := R.begin_ahead hlt ((isEv_iff 2 l[k].id _).2 ⟨h2, rfl⟩)
    exact (opOf_take (hasE_at hb h1 (by omega))).symm
theorem wit_of {l : List Pr} {evs : List Ev} (R : Right evs) : wit l evs = runT (opOf evs) evs (newP l) evs.length := by
  unfold wit; rw [show opsS evs = opOf evs from funext (ops_right R)]
theorem check_take {l : List Pr} {evs : List Ev} (h : (checkL l evs).2 = 0) (n : Nat) (hn : n ≤ evs.length) : checkL l (evs.take n) = (-1, 0) := by
  obtain ⟨h1, h2⟩ := checkL_ok h
  have ok := ok_of_check h1
  have R := right_of_ok ok
  have okn := ok_take ok n
  refine checkL_of okn ?_
  have hl : (evs.take n).length = n := by rw [List.length_take]; omega
  rw [wit_of (right_of_ok okn), hl, runT_take R n _ n (Nat.le_refl _) hn]
  rw [wit_of R] at h2
  exact runT_neg _ _ _ h2 hn
theorem some_of_check {l : List Pr} {evs : List Ev} (h : (checkL l evs).2 = 0) (h7 : (idsS evs).length ≤ 7) : someS l evs = true := by
  obtain ⟨h1, h2⟩ := checkL_ok h
  have R := right_of_check h1
  have V := invO_all R
  have hl : (foldO evs).all.length ≤ 7 := by rw [← V.len, V.ids]; exact h7
  unfold someS
  rw [h1, if_neg (by decide), if_neg (by omega)]
  rw [wit_of R] at h2
  exact (some_iff _ hl l).2 (can_at R (newP l) h2 evs.length 0 (by omega) (by omega))
theorem ids_take_len {l : List Ev} {j : Nat} (h : j < l.length) : (idsS (l.take (j + 1))).length = (idsS (l.take j)).length + if l[j].kind == 1 then 1 else 0 := by
  rw [List.take_succ_eq_append_getElem h, idsS_snoc, List.length_append]
  split <;> rfl
attribute [local irreducible] andThen inBlock LWp LOps LCalls

set_option maxHeartbeats 8000000 in
theorem sure_L {G : Ctx} (hP : G.P = Try.prog) (l : List Pr) (evs : List Ev) (S : LS) : LCalls G 5 [.one (.sl .sh (l.map prL)), .one (.sl .sh (evs.map evL))] (fun r _ => r = .one (bv true)) S := by
  have hD : TabOK G.P D := by rw [hP]; exact hD0
  have cw := wakes8_F hP
  refine LCalls.enter (fn := Try.f5) (by rw [hP]; exact Try.func5) rfl rfl ?_
  repeat (first | refine LOps.nil ?_ | refine andThen_normal ?_ | refine andThen_exit ?_ | refine andThen_ret ?_ | refine inBlock_normal ?_ | refine inBlock_ret ?_ | refine inBlock_here ?_ | refine inBlock_out rfl ?_ | refine LWp.seq ?_ | refine LWp.region ?_ | refine LWp.block ?_ | refine LWp.exit ?_ | refine LWp.ret ?_ | refine LWp.skip ?_ | refine LOps.val (LVal.call rfl rfl (by rw [hP]; exact Try.func9) rfl (by decide) (great8_F hP l evs)) rfl rfl rfl ?_ | refine LOps.whenC (LVal.call rfl rfl (by rw [hP]; exact Try.func9) rfl (by decide) (great8_F hP l evs)) ?_ | refine LOps.valA ?_ | refine LOps.outA ?_ | refine LOps.whenA ?_ | refine LOps.pickA ?_ | refine LOps.storeA ?_)
  refine LWp.cond rfl (fun h => ?_) (fun h => ?_)
  · repeat (first | refine LOps.nil ?_ | refine andThen_normal ?_ | refine andThen_exit ?_ | refine andThen_ret ?_ | refine inBlock_normal ?_ | refine inBlock_ret ?_ | refine inBlock_here ?_ | refine inBlock_out rfl ?_ | refine LWp.seq ?_ | refine LWp.region ?_ | refine LWp.block ?_ | refine LWp.exit ?_ | refine LWp.ret ?_ | refine LWp.skip ?_ | refine LOps.val (LVal.call rfl rfl (by rw [hP]; exact Try.func10) rfl (by decide) (cw)) rfl rfl rfl ?_ | refine LOps.whenC (LVal.call rfl rfl (by rw [hP]; exact Try.func10) rfl (by decide) (cw)) ?_ | refine LOps.valA ?_ | refine LOps.outA ?_ | refine LOps.whenA ?_ | refine LOps.pickA ?_ | refine LOps.storeA ?_)
    exact ⟨_, LRes.one rfl, rfl⟩
  have h := (Bool.or_eq_false_iff.1 h).1
  have ok := ok8_of h
  have hne := ok.ne
  have hnl := ok.nl
  repeat (first | refine LOps.nil ?_ | refine andThen_normal ?_ | refine andThen_exit ?_ | refine andThen_ret ?_ | refine inBlock_normal ?_ | refine inBlock_ret ?_ | refine inBlock_here ?_ | refine inBlock_out rfl ?_ | refine LWp.seq ?_ | refine LWp.region ?_ | refine LWp.block ?_ | refine LWp.exit ?_ | refine LWp.ret ?_ | refine LWp.skip ?_ | refine LOps.val (LVal.call rfl rfl (by rw [hP]; exact Try.func11) rfl (by decide) (LF.check_F hP l (by omega) evs (by omega))) rfl rfl rfl ?_ | refine LOps.whenC (LVal.call rfl rfl (by rw [hP]; exact Try.func11) rfl (by decide) (LF.check_F hP l (by omega) evs (by omega))) ?_ | refine LOps.valA ?_ | refine LOps.outA ?_ | refine LOps.whenA ?_ | refine LOps.pickA ?_ | refine LOps.storeA ?_)
  refine LWp.cond rfl (fun h => ?_) (fun h => ?_)
  · repeat (first | refine LOps.nil ?_ | refine andThen_normal ?_ | refine andThen_exit ?_ | refine andThen_ret ?_ | refine inBlock_normal ?_ | refine inBlock_ret ?_ | refine inBlock_here ?_ | refine inBlock_out rfl ?_ | refine LWp.seq ?_ | refine LWp.region ?_ | refine LWp.block ?_ | refine LWp.exit ?_ | refine LWp.ret ?_ | refine LWp.skip ?_ | refine LOps.val (LVal.call rfl rfl (by rw [hP]; exact Try.func10) rfl (by decide) (cw)) rfl rfl rfl ?_ | refine LOps.whenC (LVal.call rfl rfl (by rw [hP]; exact Try.func10) rfl (by decide) (cw)) ?_ | refine LOps.valA ?_ | refine LOps.outA ?_ | refine LOps.whenA ?_ | refine LOps.pickA ?_ | refine LOps.storeA ?_)
    exact ⟨_, LRes.one rfl, rfl⟩
  have hck : (checkL l evs).2 = 0 := by simpa using h
  repeat (first | refine LOps.nil ?_ | refine andThen_normal ?_ | refine andThen_exit ?_ | refine andThen_ret ?_ | refine inBlock_normal ?_ | refine inBlock_ret ?_ | refine inBlock_here ?_ | refine inBlock_out rfl ?_ | refine LWp.seq ?_ | refine LWp.region ?_ | refine LWp.block ?_ | refine LWp.exit ?_ | refine LWp.ret ?_ | refine LWp.skip ?_ | refine LOps.valA ?_ | refine LOps.outA ?_ | refine LOps.whenA ?_ | refine LOps.pickA ?_ | refine LOps.storeA ?_)
  refine LWp.loop (fun m T S' => ∃ (T' : Nat → TV) (j : Nat), j ≤ evs.length ∧ m = evs.length - j ∧ T = over T' [(0, .one (.sl .sh (l.map prL))), (1, .one (.sl .sh (evs.map evL))), (7, .one (iv ((idsS (evs.take j)).length : Nat))), (8, .one (iv (j : Nat)))]) evs.length ?_ ?_
  · exact ⟨_, 0, by omega, by omega, holds.over ⟨rfl, rfl, rfl, rfl, trivial⟩⟩
  rintro m T S1 ⟨T', j, hj, rfl, rfl⟩
  repeat (first | refine LOps.nil ?_ | refine andThen_normal ?_ | refine andThen_exit ?_ | refine andThen_ret ?_ | refine inBlock_normal ?_ | refine inBlock_ret ?_ | refine inBlock_here ?_ | refine inBlock_out rfl ?_ | refine LWp.seq ?_ | refine LWp.region ?_ | refine LWp.block ?_ | refine LWp.exit ?_ | refine LWp.ret ?_ | refine LWp.skip ?_ | refine LOps.valA ?_ | refine LOps.outA ?_ | refine LOps.whenA ?_ | refine LOps.pickA ?_ | refine LOps.storeA ?_)
  refine LWp.cond rfl (fun h => ?_) (fun h => ?_)
  · have hlt : j < evs.length := by simpa using h
    have cp := LF.check_F hP l (by omega) (evs.take j) (by rw [List.length_take]; omega)
    rw [check_take hck j hj] at cp
    have e1 := ids_take_len hlt
    have hil : (idsS (evs.take j)).length ≤ 1000 := by
      unfold idsS; rw [List.length_map]
      exact Nat.le_trans (List.length_filter_le _ _) (by rw [List.length_take]; omega)
    repeat (first | refine LOps.nil ?_ | refine andThen_normal ?_ | refine andThen_exit ?_ | refine andThen_ret ?_ | refine inBlock_normal ?_ | refine inBlock_ret ?_ | refine inBlock_here ?_ | refine inBlock_out rfl ?_ | refine LWp.seq ?_ | refine LWp.region ?_ | refine LWp.block ?_ | refine LWp.exit ?_ | refine LWp.ret ?_ | refine LWp.skip ?_ | refine LOps.valA ?_ | refine LOps.outA ?_ | refine LOps.whenA ?_ | refine LOps.pickA ?_ | refine LOps.storeA ?_)
    refine LWp.cond rfl (fun h => ?_) (fun h => ?_)
    · have h : (evs[j].kind == 1) = true := h
      have e2 : (idsS (evs.take (j + 1))).length = (idsS (evs.take j)).length + 1 := by rw [e1, h]; rfl
      repeat (first | refine LOps.val (LVal.takeMap hD rfl rfl rfl rfl rfl rfl (by omega) rfl (fun _ _ => rfl)) rfl rfl rfl ?_ | refine LOps.nil ?_ | refine andThen_normal ?_ | refine andThen_exit ?_ | refine andThen_ret ?_ | refine inBlock_normal ?_ | refine inBlock_ret ?_ | refine inBlock_here ?_ | refine inBlock_out rfl ?_ | refine LWp.seq ?_ | refine LWp.region ?_ | refine LWp.block ?_ | refine LWp.exit ?_ | refine LWp.ret ?_ | refine LWp.skip ?_ | refine LOps.val (LVal.call rfl rfl (by rw [hP]; exact Try.func11) rfl (by decide) (cp)) rfl rfl rfl ?_ | refine LOps.whenC (LVal.call rfl rfl (by rw [hP]; exact Try.func11) rfl (by decide) (cp)) ?_ | refine LOps.valA ?_ | refine LOps.outA ?_ | refine LOps.whenA ?_ | refine LOps.pickA ?_ | refine LOps.storeA ?_)
      refine LWp.cond rfl (fun h => ?_) (fun h => ?_)
      · exact absurd h (by decide)
      repeat (first | refine LOps.nil ?_ | refine andThen_normal ?_ | refine andThen_exit ?_ | refine andThen_ret ?_ | refine inBlock_normal ?_ | refine inBlock_ret ?_ | refine inBlock_here ?_ | refine inBlock_out rfl ?_ | refine LWp.seq ?_ | refine LWp.region ?_ | refine LWp.block ?_ | refine LWp.exit ?_ | refine LWp.ret ?_ | refine LWp.skip ?_ | refine LOps.valA ?_ | refine LOps.outA ?_ | refine LOps.whenA ?_ | refine LOps.pickA ?_ | refine LOps.storeA ?_)
      exact ⟨evs.length - (j + 1), by omega, _, j + 1, by omega, rfl, holds.over ⟨rfl, rfl, by rw [e2]; rfl, rfl, trivial⟩⟩
    · have h : (evs[j].kind == 1) = false := h
      have e2 : (idsS (evs.take (j + 1))).length = (idsS (evs.take j)).length := by rw [e1, h]; rfl
      repeat (first | refine LOps.val (LVal.takeMap hD rfl rfl rfl rfl rfl rfl (by omega) rfl (fun _ _ => rfl)) rfl rfl rfl ?_ | refine LOps.nil ?_ | refine andThen_normal ?_ | refine andThen_exit ?_ | refine andThen_ret ?_ | refine inBlock_normal ?_ | refine inBlock_ret ?_ | refine inBlock_here ?_ | refine inBlock_out rfl ?_ | refine LWp.seq ?_ | refine LWp.region ?_ | refine LWp.block ?_ | refine LWp.exit ?_ | refine LWp.ret ?_ | refine LWp.skip ?_ | refine LOps.val (LVal.call rfl rfl (by rw [hP]; exact Try.func11) rfl (by decide) (cp)) rfl rfl rfl ?_ | refine LOps.whenC (LVal.call rfl rfl (by rw [hP]; exact Try.func11) rfl (by decide) (cp)) ?_ | refine LOps.valA ?_ | refine LOps.outA ?_ | refine LOps.whenA ?_ | refine LOps.pickA ?_ | refine LOps.storeA ?_)
      refine LWp.cond rfl (fun h => ?_) (fun h => ?_)
      · exact absurd h (by decide)
      repeat (first | refine LOps.nil ?_ | refine andThen_normal ?_ | refine andThen_exit ?_ | refine andThen_ret ?_ | refine inBlock_normal ?_ | refine inBlock_ret ?_ | refine inBlock_here ?_ | refine inBlock_out rfl ?_ | refine LWp.seq ?_ | refine LWp.region ?_ | refine LWp.block ?_ | refine LWp.exit ?_ | refine LWp.ret ?_ | refine LWp.skip ?_ | refine LOps.valA ?_ | refine LOps.outA ?_ | refine LOps.whenA ?_ | refine LOps.pickA ?_ | refine LOps.storeA ?_)
      exact ⟨evs.length - (j + 1), by omega, _, j + 1, by omega, rfl, holds.over ⟨rfl, rfl, by rw [e2]; rfl, rfl, trivial⟩⟩
  · have hge : j = evs.length := by simp at h; omega
    subst hge
    rw [List.take_length]
    repeat (first | refine LOps.nil ?_ | refine andThen_normal ?_ | refine andThen_exit ?_ | refine andThen_ret ?_ | refine inBlock_normal ?_ | refine inBlock_ret ?_ | refine inBlock_here ?_ | refine inBlock_out rfl ?_ | refine LWp.seq ?_ | refine LWp.region ?_ | refine LWp.block ?_ | refine LWp.exit ?_ | refine LWp.ret ?_ | refine LWp.skip ?_ | refine LOps.val (LVal.call rfl rfl (by rw [hP]; exact Try.func19) rfl (by decide) (some_F hP l (by omega) evs (by omega))) rfl rfl rfl ?_ | refine LOps.val (LVal.call rfl rfl (by rw [hP]; exact Try.func10) rfl (by decide) (cw)) rfl rfl rfl ?_ | refine LOps.whenC (LVal.call rfl rfl (by rw [hP]; exact Try.func19) rfl (by decide) (some_F hP l (by omega) evs (by omega))) ?_ | refine LOps.whenC (LVal.call rfl rfl (by rw [hP]; exact Try.func10) rfl (by decide) (cw)) ?_ | refine LOps.valA ?_ | refine LOps.outA ?_ | refine LOps.whenA ?_ | refine LOps.pickA ?_ | refine LOps.storeA ?_)
    have hv : (decide (((idsS evs).length : Int) > 7) || someS l evs) = true := by
      by_cases h7 : (idsS evs).length ≤ 7
      · rw [some_of_check hck h7, Bool.or_true]
      · rw [decide_eq_true (by omega)]; rfl
    exact ⟨_, LRes.one rfl, isTrue _ (by simp only [Bool.and_true]; exact hv)⟩
end Go.Proofs.Ytandbjhedkgldaa.LF

namespace Go.Proofs.Ytandbjhedkgldaa
open Go.RowKit LF
theorem linearSure_walk (W : World) (v0 : Value) (l0 : List LV) (y0 : Typed LF.D 22 l0) (g0 : RepT (G0 Try.prog W) W (allCells W) (argTV ti22 l0) v0) (v1 : Value) (l1 : List LV) (y1 : Typed LF.D 23 l1) (g1 : RepT (G0 Try.prog W) W (allCells W) (argTV ti23 l1) v1) :
    Calls Try.prog 5 #[v0, v1] W fun e W' => e = .returned (.bool true) ∧ Below W.heap.size W W' := by
  obtain ⟨l, rfl⟩ := LF.typed_prs y0
  obtain ⟨evs, rfl⟩ := H.typed_evs y1
  exact law_calls (fun G S h => sure_L h l evs S) (.cons (vs := [v1]) g0 (.cons (vs := []) g1 .nil))
end Go.Proofs.Ytandbjhedkgldaa
