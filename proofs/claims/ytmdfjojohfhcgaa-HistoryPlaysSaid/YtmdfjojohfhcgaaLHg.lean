/- The walk of the law 'HistoryPlays'. -/
import Derived.Test.YtmdfjojohfhcgaaLHf
set_option linter.unusedVariables false
set_option linter.unusedSimpArgs false
namespace Go.Proofs.Ytmdfjojohfhcgaa.LF
open Go.RowKit

theorem evL_begin (x : Ev) (h : x.kind = 1) : splice (evL x) 9 (ansL noAns) = evL ⟨1, x.id, x.op, noAns⟩ := by cases x; subst h; rfl
theorem evL_mark (x : Ev) (h : x.kind = 2) : splice (evL x) 2 (opL noOp) = evL ⟨2, x.id, noOp, x.ans⟩ := by cases x; subst h; rfl
theorem evL_end (x : Ev) (a : Ans) (h : x.kind = 3) : splice (splice (evL x) 2 (opL noOp)) 9 (ansL a) = evL ⟨3, x.id, noOp, a⟩ := by cases x; subst h; rfl

/-- The law's own blocks beside the history's. -/
structure PlB (S0 S : LS) (F : Nat → Prop) (ow : Own) (n : Nat) : Prop where
  le : S0.le S
  new : ∀ x, F x → S0.top ≤ x
  top : ∀ x, F x → x < S.top
  own : Owned S evT n ow
  out : Out S0 ow
  apart : ∀ x, ow = .own x → ¬ F x
  lt : ∀ x, ow = .own x → x < S.top

theorem PlB.put {S0 S S' : LS} {F : Nat → Prop} {ow : Own} {n : Nat} (h : PlB S0 S F ow n) (hw : S0.wf) (k : S.only F S') : PlB S0 S' (grow F S S') ow n where
  le := h.le.newOnly k h.new hw
  new := grow_new h.new h.le.top
  top := fun x hx => by
    rcases hx with hx | hx
    · exact Nat.lt_of_lt_of_le (h.top x hx) k.top
    · exact hx.2
  own := h.own.only k h.apart
  out := h.out
  apart := fun x hx hg => by
    rcases hg with hg | hg
    · exact h.apart x hx hg
    · have := h.lt x hx; have := hg.1; omega
  lt := fun x hx => Nat.lt_of_lt_of_le (h.lt x hx) k.top

theorem PlB.box {S0 S : LS} {F : Nat → Prop} {ow : Own} {n b : Nat} (h : PlB S0 S F ow n) (hb : S.fresh b) (cs : List LV) : PlB S0 (S.newBox b cs) F ow n where
  le := h.le.newBox hb cs
  new := h.new
  top := fun x hx => Nat.lt_of_lt_of_le (h.top x hx) (Nat.le_trans hb.top (Nat.le_succ b))
  own := h.own.newBox
  out := h.out
  apart := h.apart
  lt := fun x hx => Nat.lt_of_lt_of_le (h.lt x hx) (Nat.le_trans hb.top (Nat.le_succ b))

theorem PlB.set {S0 S : LS} {F : Nat → Prop} {ow : Own} {n b : Nat} (h : PlB S0 S F ow n) (hb : S0.box b = none) (cs : List LV) : PlB S0 (S.setBox b cs) F ow n where
  le := h.le.setBox hb cs
  new := h.new
  top := h.top
  own := h.own.setBox
  out := h.out
  apart := h.apart
  lt := h.lt

theorem LS.le.none {S S' : LS} (h : S.le S') {b : Nat} (hb : S'.fresh b) : S.box b = Option.none := by
  cases hq : S.box b with
  | none => rfl
  | some x => have := h.box _ _ hq; rw [hb.box] at this; cases this

theorem great_no {l : List Ev} (h : greatS l = false) : l.length ≤ 200 ∧ ∀ e ∈ l, e.op.writes.length ≤ 20 := by
  simp [greatS] at h
  exact ⟨h.1, h.2⟩

theorem Known.answer {w : List Ev} {f : Int → Kn} (h : Known w f) (id : Int) : (f id).ans = answerS w id := (h id).ans

/-- What became of an event that was put. -/
def Took (S : LS) (F : Nat → Prop) (b : Nat) (w : List Ev) (f : Int → Kn) (x : Ev) (r : Int) : Prop :=
  (takesS (f x.id) x = none ∧ r = 31 ∧ Hist S F b w f) ∨ ∃ k, takesS (f x.id) x = some k ∧ r = 0 ∧ Hist S F b (w ++ [x]) (put1 f x.id k)
theorem Took.set {S : LS} {F : Nat → Prop} {b : Nat} {w : List Ev} {f : Int → Kn} {x : Ev} {r : Int} (h : Took S F b w f x r) {c : Nat} (hc : ¬ F c) (cs : List LV) : Took (S.setBox c cs) F b w f x r := by
  have hk : S.only (· = c) (S.setBox c cs) := .setBox (F := (· = c)) rfl _
  have hn : ∀ x, F x → ¬ x = c := fun x hx e => hc (e ▸ hx)
  rcases h with ⟨h1, h2, h3⟩ | ⟨k, h1, h2, h3⟩
  · exact .inl ⟨h1, h2, h3.only hk hn⟩
  · exact .inr ⟨k, h1, h2, h3.only hk hn⟩

set_option maxHeartbeats 16000000 in
theorem plays_L {G : Ctx} (hP : G.P = Try.prog) (l : List Ev) (S : LS) :
    LCalls G 3 [.one (.sl .sh (l.map evL))] (fun r _ => r = .one (bv true)) S := .sound fun hs => by
  have hD : TabOK G.P D := by rw [hP]; exact hD0
  have hwf := hs.wf
  refine LCalls.enter (fn := Try.f3) (by rw [hP]; exact Try.func3) rfl rfl ?_
  repeat (first | refine LOps.nil ?_ | refine andThen_normal ?_ | refine andThen_exit ?_ | refine andThen_ret ?_ | refine inBlock_normal ?_ | refine inBlock_ret ?_ | refine inBlock_here ?_ | refine inBlock_out rfl ?_ | refine LWp.seq ?_ | refine LWp.region ?_ | refine LWp.block ?_ | refine LWp.exit ?_ | refine LWp.ret ?_ | refine LWp.skip ?_ | refine LOps.val (LVal.call rfl rfl (by rw [hP]; exact Try.func8) rfl (by decide) (great_F hP l)) rfl rfl rfl ?_ | refine LOps.whenC (LVal.call rfl rfl (by rw [hP]; exact Try.func8) rfl (by decide) (great_F hP l)) ?_ | refine LOps.valA ?_ | refine LOps.outA ?_ | refine LOps.whenA ?_ | refine LOps.pickA ?_ | refine LOps.storeA ?_)
  refine LWp.cond rfl (fun h => ?_) (fun h => ?_)
  · repeat (first | refine LOps.nil ?_ | refine andThen_normal ?_ | refine andThen_exit ?_ | refine andThen_ret ?_ | refine inBlock_normal ?_ | refine inBlock_ret ?_ | refine inBlock_here ?_ | refine inBlock_out rfl ?_ | refine LWp.seq ?_ | refine LWp.region ?_ | refine LWp.block ?_ | refine LWp.exit ?_ | refine LWp.ret ?_ | refine LWp.skip ?_ | refine LOps.valA ?_ | refine LOps.outA ?_ | refine LOps.whenA ?_ | refine LOps.pickA ?_ | refine LOps.storeA ?_)
    refine LOps.do (LDo.callF (wakes_L hP _) (by rw [hP]; exact Try.func9)) rfl rfl rfl ?_
    rintro _ S1 ⟨rfl, _⟩
    repeat (first | refine LOps.nil ?_ | refine andThen_normal ?_ | refine andThen_exit ?_ | refine andThen_ret ?_ | refine inBlock_normal ?_ | refine inBlock_ret ?_ | refine inBlock_here ?_ | refine inBlock_out rfl ?_ | refine LWp.seq ?_ | refine LWp.region ?_ | refine LWp.block ?_ | refine LWp.exit ?_ | refine LWp.ret ?_ | refine LWp.skip ?_ | refine LOps.valA ?_ | refine LOps.outA ?_ | refine LOps.whenA ?_ | refine LOps.pickA ?_ | refine LOps.storeA ?_)
    exact ⟨_, LRes.one rfl, rfl⟩
  obtain ⟨hl, hlw⟩ := great_no h
  repeat (first | refine LOps.nil ?_ | refine andThen_normal ?_ | refine andThen_exit ?_ | refine andThen_ret ?_ | refine inBlock_normal ?_ | refine inBlock_ret ?_ | refine inBlock_here ?_ | refine inBlock_out rfl ?_ | refine LWp.seq ?_ | refine LWp.region ?_ | refine LWp.block ?_ | refine LWp.exit ?_ | refine LWp.ret ?_ | refine LWp.skip ?_ | refine LOps.valA ?_ | refine LOps.outA ?_ | refine LOps.whenA ?_ | refine LOps.pickA ?_ | refine LOps.storeA ?_)
  refine LOps.do (LDo.callF (new_L hP _) (by rw [hP]; exact Try.func10)) rfl rfl rfl ?_
  rintro _ S1 ⟨le1, b, rfl, _, H1⟩
  repeat (first | refine LOps.nil ?_ | refine andThen_normal ?_ | refine andThen_exit ?_ | refine andThen_ret ?_ | refine inBlock_normal ?_ | refine inBlock_ret ?_ | refine inBlock_here ?_ | refine inBlock_out rfl ?_ | refine LWp.seq ?_ | refine LWp.region ?_ | refine LWp.block ?_ | refine LWp.exit ?_ | refine LWp.ret ?_ | refine LWp.skip ?_ | refine LOps.valA ?_ | refine LOps.outA ?_ | refine LOps.whenA ?_ | refine LOps.pickA ?_ | refine LOps.storeA ?_)
  refine LWp.loop (fun k T S' => ∃ T' j F w f ow, j ≤ l.length ∧ k = l.length - j ∧ PlB S S' F ow w.length ∧ Hist S' F b w f ∧ Known w f ∧ w.length ≤ j ∧ (∀ e ∈ w, e.op.writes.length ≤ 20) ∧
    T = over T' [(0, .one (.sl .sh (l.map evL))), (3, .one (.v (.pointer (some ⟨b, 0, none⟩)))), (4, .one (.sl ow (w.map evL))), (5, .one (iv j))]) l.length ?_ ?_
  · exact ⟨_, 0, _, [], _, .nil, by omega, by omega, ⟨le1, fun x hx => hx.1, fun x hx => hx.2, rfl, .nil _, (fun x hx => by cases hx), (fun x hx => by cases hx)⟩, H1, .nil, by simp, by simp, holds.over ⟨rfl, rfl, rfl, rfl, trivial⟩⟩
  clear H1 le1 S1
  rintro k T S' ⟨T', j, F, w, f, ow, hj, rfl, hB, hH, hK, hwj, hws, rfl⟩
  repeat (first | refine LOps.nil ?_ | refine andThen_normal ?_ | refine andThen_exit ?_ | refine andThen_ret ?_ | refine inBlock_normal ?_ | refine inBlock_ret ?_ | refine inBlock_here ?_ | refine inBlock_out rfl ?_ | refine LWp.seq ?_ | refine LWp.region ?_ | refine LWp.block ?_ | refine LWp.exit ?_ | refine LWp.ret ?_ | refine LWp.skip ?_ | refine LOps.valA ?_ | refine LOps.outA ?_ | refine LOps.whenA ?_ | refine LOps.pickA ?_ | refine LOps.storeA ?_)
  refine LWp.cond rfl (fun h => ?_) (fun h => ?_)
  · have hlt : j < l.length := by simpa using h
    have hxw := hlw _ (List.getElem_mem hlt)
    repeat (first | refine LOps.nil ?_ | refine andThen_normal ?_ | refine andThen_exit ?_ | refine andThen_ret ?_ | refine inBlock_normal ?_ | refine inBlock_ret ?_ | refine inBlock_here ?_ | refine inBlock_out rfl ?_ | refine LWp.seq ?_ | refine LWp.region ?_ | refine LWp.block ?_ | refine LWp.exit ?_ | refine LWp.ret ?_ | refine LWp.skip ?_ | refine LOps.valA ?_ | refine LOps.outA ?_ | refine LOps.whenA ?_ | refine LOps.pickA ?_ | refine LOps.storeA ?_)
    refine LOps.do (LDo.alloc hD rfl rfl rfl) rfl rfl rfl ?_
    rintro _ _ ⟨b6, hb6, rfl, rfl⟩
    have n6 : S.box b6 = none := hB.le.none hb6
    have nF6 : ¬ F b6 := fun hf => by have := hB.top b6 hf; have := hb6.top; omega
    repeat (first | refine LWp.seq (LWp.cut 10 (fun T1 S1 => ∃ (x : Ev) (r : Int) (F1 : Nat → Prop) (T2 : Nat → TV), x.op.writes.length ≤ 20 ∧ S1.box b6 = some (evL x) ∧ PlB S S1 F1 ow w.length ∧ ¬ F1 b6 ∧ Took S1 F1 b w f x r ∧ T1 = over T2 [(0, .one (.sl .sh (l.map evL))), (3, .one (.v (.pointer (some ⟨b, 0, none⟩)))), (4, .one (.sl ow (w.map evL))), (5, .one (iv j)), (6, .one (.v (.pointer (some ⟨b6, 0, none⟩)))), (7, .one (iv r))]) rfl ?_ ?_) | refine LOps.nil ?_ | refine andThen_normal ?_ | refine andThen_exit ?_ | refine andThen_ret ?_ | refine inBlock_normal ?_ | refine inBlock_ret ?_ | refine inBlock_here ?_ | refine inBlock_out rfl ?_ | refine LWp.seq ?_ | refine LWp.region ?_ | refine LWp.block ?_ | refine LWp.exit ?_ | refine LWp.ret ?_ | refine LWp.skip ?_ | refine LOps.valA ?_ | refine LOps.outA ?_ | refine LOps.whenA ?_ | refine LOps.pickA ?_ | refine LOps.storeA ?_)
    · refine LWp.gen (fun S1 => PlB S S1 F ow w.length ∧ Hist S1 F b w f ∧ S1.box b6 = some (evL l[j]) ∧ b6 < S1.top) ⟨(hB.box hb6 _).set n6 _, (hH.le (.newBox (.refl _) hb6 _)).only (.setBox (F := (· = b6)) rfl _) (fun x hx e => nF6 (e ▸ hx)), box_set _ _ _, Nat.lt_succ_self _⟩ ?_
      clear hB hH hb6
      rintro S1 ⟨hB, hH, k6, t6⟩
      have hn6 : ∀ S2, S1.only F S2 → ¬ grow F S1 S2 b6 := fun S2 _ hg => by
        rcases hg with hg | hg
        · exact nF6 hg
        · have := hg.1; omega
      have fin : ∀ (x : Ev) (r : TV) (S2 : LS), PutPost S1 F b w f x r S2 → ∃ ri : Int, r = .one (iv ri) ∧ PlB S S2 (grow F S1 S2) ow w.length ∧ S1.only F S2 ∧ S2.box b6 = some (evL l[j]) ∧
          Took S2 (grow F S1 S2) b w f x ri := fun x r S2 hp => by
        cases ht : takesS (f x.id) x with
        | none =>
          obtain ⟨rfl, o2, H2⟩ := hp.none ht
          exact ⟨31, rfl, hB.put hwf o2, o2, o2.box _ _ nF6 k6, .inl ⟨ht, rfl, H2⟩⟩
        | some k =>
          obtain ⟨rfl, o2, H2⟩ := hp.some ht
          exact ⟨0, rfl, hB.put hwf o2, o2, o2.box _ _ nF6 k6, .inr ⟨k, ht, rfl, H2⟩⟩
      repeat (first | refine LOps.nil ?_ | refine andThen_normal ?_ | refine andThen_exit ?_ | refine andThen_ret ?_ | refine inBlock_normal ?_ | refine inBlock_ret ?_ | refine inBlock_here ?_ | refine inBlock_out rfl ?_ | refine LWp.seq ?_ | refine LWp.region ?_ | refine LWp.block ?_ | refine LWp.exit ?_ | refine LWp.ret ?_ | refine LWp.skip ?_ | refine LOps.valA ?_ | refine LOps.outA ?_ | refine LOps.whenA ?_ | refine LOps.pickA ?_ | refine LOps.storeA ?_)
      refine LWp.cond rfl (fun h => ?_) (fun h => ?_)
      · have h1 : l[j].kind = 1 := by simpa using h
        repeat (first | refine LOps.nil ?_ | refine andThen_normal ?_ | refine andThen_exit ?_ | refine andThen_ret ?_ | refine inBlock_normal ?_ | refine inBlock_ret ?_ | refine inBlock_here ?_ | refine inBlock_out rfl ?_ | refine LWp.seq ?_ | refine LWp.region ?_ | refine LWp.block ?_ | refine LWp.exit ?_ | refine LWp.ret ?_ | refine LWp.skip ?_ | refine LOps.valA ?_ | refine LOps.outA ?_ | refine LOps.whenA ?_ | refine LOps.pickA ?_ | refine LOps.storeA ?_)
        refine LOps.do (LDo.callF (begin_L hP l[j].id l[j].op (by omega) F b w f (by omega) S1 hH) (by rw [hP]; exact Try.func11)) rfl rfl rfl ?_
        intro r S2 hp
        obtain ⟨ri, rfl, hB2, o2, k62, hc⟩ := fin _ _ _ hp
        repeat (first | refine LOps.nil ?_ | refine andThen_normal ?_ | refine andThen_exit ?_ | refine andThen_ret ?_ | refine inBlock_normal ?_ | refine inBlock_ret ?_ | refine inBlock_here ?_ | refine inBlock_out rfl ?_ | refine LWp.seq ?_ | refine LWp.region ?_ | refine LWp.block ?_ | refine LWp.exit ?_ | refine LWp.ret ?_ | refine LWp.skip ?_ | refine LOps.valA ?_ | refine LOps.outA ?_ | refine LOps.whenA ?_ | refine LOps.pickA ?_ | refine LOps.storeA ?_)
        exact ⟨⟨1, l[j].id, l[j].op, noAns⟩, ri, _, _, hxw, (box_set _ _ _).trans (congrArg some (evL_begin l[j] h1)), hB2.set n6 _, hn6 _ o2, hc.set (hn6 _ o2) _, holds.over ⟨rfl, rfl, rfl, rfl, rfl, rfl, trivial⟩⟩
      repeat (first | refine LOps.nil ?_ | refine andThen_normal ?_ | refine andThen_exit ?_ | refine andThen_ret ?_ | refine inBlock_normal ?_ | refine inBlock_ret ?_ | refine inBlock_here ?_ | refine inBlock_out rfl ?_ | refine LWp.seq ?_ | refine LWp.region ?_ | refine LWp.block ?_ | refine LWp.exit ?_ | refine LWp.ret ?_ | refine LWp.skip ?_ | refine LOps.valA ?_ | refine LOps.outA ?_ | refine LOps.whenA ?_ | refine LOps.pickA ?_ | refine LOps.storeA ?_)
      refine LWp.cond rfl (fun h => ?_) (fun h => ?_)
      · have h1 : l[j].kind = 2 := by simpa using h
        repeat (first | refine LOps.nil ?_ | refine andThen_normal ?_ | refine andThen_exit ?_ | refine andThen_ret ?_ | refine inBlock_normal ?_ | refine inBlock_ret ?_ | refine inBlock_here ?_ | refine inBlock_out rfl ?_ | refine LWp.seq ?_ | refine LWp.region ?_ | refine LWp.block ?_ | refine LWp.exit ?_ | refine LWp.ret ?_ | refine LWp.skip ?_ | refine LOps.valA ?_ | refine LOps.outA ?_ | refine LOps.whenA ?_ | refine LOps.pickA ?_ | refine LOps.storeA ?_)
        refine LOps.do (LDo.callF (mark_L hP l[j].id l[j].ans F b w f (by omega) S1 hH) (by rw [hP]; exact Try.func12)) rfl rfl rfl ?_
        intro r S2 hp
        obtain ⟨ri, rfl, hB2, o2, k62, hc⟩ := fin _ _ _ hp
        repeat (first | refine LOps.val (r := .agg (opL noOp)) (LVal.shTo (LVal.build hD rfl rfl rfl rfl rfl rfl rfl) rfl) rfl rfl rfl ?_ | refine LOps.nil ?_ | refine andThen_normal ?_ | refine andThen_exit ?_ | refine andThen_ret ?_ | refine inBlock_normal ?_ | refine inBlock_ret ?_ | refine inBlock_here ?_ | refine inBlock_out rfl ?_ | refine LWp.seq ?_ | refine LWp.region ?_ | refine LWp.block ?_ | refine LWp.exit ?_ | refine LWp.ret ?_ | refine LWp.skip ?_ | refine LOps.valA ?_ | refine LOps.outA ?_ | refine LOps.whenA ?_ | refine LOps.pickA ?_ | refine LOps.storeA ?_)
        exact ⟨⟨2, l[j].id, noOp, l[j].ans⟩, ri, _, _, by simp [noOp], (box_set _ _ _).trans (congrArg some (evL_mark l[j] h1)), hB2.set n6 _, hn6 _ o2, hc.set (hn6 _ o2) _, holds.over ⟨rfl, rfl, rfl, rfl, rfl, rfl, trivial⟩⟩
      repeat (first | refine LOps.nil ?_ | refine andThen_normal ?_ | refine andThen_exit ?_ | refine andThen_ret ?_ | refine inBlock_normal ?_ | refine inBlock_ret ?_ | refine inBlock_here ?_ | refine inBlock_out rfl ?_ | refine LWp.seq ?_ | refine LWp.region ?_ | refine LWp.block ?_ | refine LWp.exit ?_ | refine LWp.ret ?_ | refine LWp.skip ?_ | refine LOps.valA ?_ | refine LOps.outA ?_ | refine LOps.whenA ?_ | refine LOps.pickA ?_ | refine LOps.storeA ?_)
      refine LWp.cond rfl (fun h => ?_) (fun h => ?_)
      · have h1 : l[j].kind = 3 := by simpa using h
        repeat (first | refine LOps.nil ?_ | refine andThen_normal ?_ | refine andThen_exit ?_ | refine andThen_ret ?_ | refine inBlock_normal ?_ | refine inBlock_ret ?_ | refine inBlock_here ?_ | refine inBlock_out rfl ?_ | refine LWp.seq ?_ | refine LWp.region ?_ | refine LWp.block ?_ | refine LWp.exit ?_ | refine LWp.ret ?_ | refine LWp.skip ?_ | refine LOps.valA ?_ | refine LOps.outA ?_ | refine LOps.whenA ?_ | refine LOps.pickA ?_ | refine LOps.storeA ?_)
        refine LOps.do (LDo.callF (end_L hP l[j].id F b w f (by omega) S1 hH) (by rw [hP]; exact Try.func13)) rfl rfl rfl ?_
        intro r S2 hp
        rw [hK.answer] at hp
        obtain ⟨ri, rfl, hB2, o2, k62, hc⟩ := fin _ _ _ hp
        repeat (first | refine LOps.val (r := .agg (opL noOp)) (LVal.shTo (LVal.build hD rfl rfl rfl rfl rfl rfl rfl) rfl) rfl rfl rfl ?_ | refine LOps.nil ?_ | refine andThen_normal ?_ | refine andThen_exit ?_ | refine andThen_ret ?_ | refine inBlock_normal ?_ | refine inBlock_ret ?_ | refine inBlock_here ?_ | refine inBlock_out rfl ?_ | refine LWp.seq ?_ | refine LWp.region ?_ | refine LWp.block ?_ | refine LWp.exit ?_ | refine LWp.ret ?_ | refine LWp.skip ?_ | refine LOps.val (LVal.call rfl rfl (by rw [hP]; exact Try.func14) rfl (by decide) (answer_F hP w (by omega) l[j].id)) rfl rfl rfl ?_ | refine LOps.whenC (LVal.call rfl rfl (by rw [hP]; exact Try.func14) rfl (by decide) (answer_F hP w (by omega) l[j].id)) ?_ | refine LOps.valA ?_ | refine LOps.outA ?_ | refine LOps.whenA ?_ | refine LOps.pickA ?_ | refine LOps.storeA ?_)
        exact ⟨⟨3, l[j].id, noOp, answerS w l[j].id⟩, ri, _, _, by simp [noOp], (box_set _ _ _).trans (congrArg some (evL_end l[j] _ h1)), (hB2.set n6 _).set n6 _, hn6 _ o2, (hc.set (hn6 _ o2) _).set (hn6 _ o2) _, holds.over ⟨rfl, rfl, rfl, rfl, rfl, rfl, trivial⟩⟩
      repeat (first | refine LOps.nil ?_ | refine andThen_normal ?_ | refine andThen_exit ?_ | refine andThen_ret ?_ | refine inBlock_normal ?_ | refine inBlock_ret ?_ | refine inBlock_here ?_ | refine inBlock_out rfl ?_ | refine LWp.seq ?_ | refine LWp.region ?_ | refine LWp.block ?_ | refine LWp.exit ?_ | refine LWp.ret ?_ | refine LWp.skip ?_ | refine LOps.valA ?_ | refine LOps.outA ?_ | refine LOps.whenA ?_ | refine LOps.pickA ?_ | refine LOps.storeA ?_)
      exact ⟨l.length - (j + 1), by omega, _, j + 1, F, w, f, ow, by omega, rfl, hB, hH, hK, by omega, hws, holds.over ⟨rfl, rfl, rfl, rfl, trivial⟩⟩
    clear hB hH hb6 nF6
    rintro T1 S1 ⟨x, r, F1, T2, hxw, k6, hB, nF6, hc, rfl⟩
    have htf := takes_fits (hK x.id)
    have hfits := fits_F hP w (by omega) x
    rw [← htf] at hfits
    rcases hc with ⟨ht, rfl, hH⟩ | ⟨k, ht, rfl, hH⟩
    · rw [ht] at hfits
      repeat (first | refine LOps.nil ?_ | refine andThen_normal ?_ | refine andThen_exit ?_ | refine andThen_ret ?_ | refine inBlock_normal ?_ | refine inBlock_ret ?_ | refine inBlock_here ?_ | refine inBlock_out rfl ?_ | refine LWp.seq ?_ | refine LWp.region ?_ | refine LWp.block ?_ | refine LWp.exit ?_ | refine LWp.ret ?_ | refine LWp.skip ?_ | refine LOps.val (LVal.call rfl rfl (by rw [hP]; exact Try.func15) rfl (by decide) (hfits)) rfl rfl rfl ?_ | refine LOps.whenC (LVal.call rfl rfl (by rw [hP]; exact Try.func15) rfl (by decide) (hfits)) ?_ | refine LOps.valA ?_ | refine LOps.outA ?_ | refine LOps.whenA ?_ | refine LOps.pickA ?_ | refine LOps.storeA ?_)
      refine LWp.condF rfl ?_
      repeat (first | refine LOps.nil ?_ | refine andThen_normal ?_ | refine andThen_exit ?_ | refine andThen_ret ?_ | refine inBlock_normal ?_ | refine inBlock_ret ?_ | refine inBlock_here ?_ | refine inBlock_out rfl ?_ | refine LWp.seq ?_ | refine LWp.region ?_ | refine LWp.block ?_ | refine LWp.exit ?_ | refine LWp.ret ?_ | refine LWp.skip ?_ | refine LOps.valA ?_ | refine LOps.outA ?_ | refine LOps.whenA ?_ | refine LOps.pickA ?_ | refine LOps.storeA ?_)
      refine LWp.condF rfl ?_
      repeat (first | refine LOps.nil ?_ | refine andThen_normal ?_ | refine andThen_exit ?_ | refine andThen_ret ?_ | refine inBlock_normal ?_ | refine inBlock_ret ?_ | refine inBlock_here ?_ | refine inBlock_out rfl ?_ | refine LWp.seq ?_ | refine LWp.region ?_ | refine LWp.block ?_ | refine LWp.exit ?_ | refine LWp.ret ?_ | refine LWp.skip ?_ | refine LOps.valA ?_ | refine LOps.outA ?_ | refine LOps.whenA ?_ | refine LOps.pickA ?_ | refine LOps.storeA ?_)
      exact ⟨l.length - (j + 1), by omega, _, j + 1, F1, w, f, ow, by omega, rfl, hB, hH, hK, by omega, hws, holds.over ⟨rfl, rfl, rfl, rfl, trivial⟩⟩
    · rw [ht] at hfits
      repeat (first | refine LOps.nil ?_ | refine andThen_normal ?_ | refine andThen_exit ?_ | refine andThen_ret ?_ | refine inBlock_normal ?_ | refine inBlock_ret ?_ | refine inBlock_here ?_ | refine inBlock_out rfl ?_ | refine LWp.seq ?_ | refine LWp.region ?_ | refine LWp.block ?_ | refine LWp.exit ?_ | refine LWp.ret ?_ | refine LWp.skip ?_ | refine LOps.val (LVal.call rfl rfl (by rw [hP]; exact Try.func15) rfl (by decide) (hfits)) rfl rfl rfl ?_ | refine LOps.whenC (LVal.call rfl rfl (by rw [hP]; exact Try.func15) rfl (by decide) (hfits)) ?_ | refine LOps.valA ?_ | refine LOps.outA ?_ | refine LOps.whenA ?_ | refine LOps.pickA ?_ | refine LOps.storeA ?_)
      refine LWp.condF rfl ?_
      repeat (first | refine LOps.nil ?_ | refine andThen_normal ?_ | refine andThen_exit ?_ | refine andThen_ret ?_ | refine inBlock_normal ?_ | refine inBlock_ret ?_ | refine inBlock_here ?_ | refine inBlock_out rfl ?_ | refine LWp.seq ?_ | refine LWp.region ?_ | refine LWp.block ?_ | refine LWp.exit ?_ | refine LWp.ret ?_ | refine LWp.skip ?_ | refine LOps.valA ?_ | refine LOps.outA ?_ | refine LOps.whenA ?_ | refine LOps.pickA ?_ | refine LOps.storeA ?_)
      refine LWp.condT rfl ?_
      repeat (first | refine LOps.nil ?_ | refine andThen_normal ?_ | refine andThen_exit ?_ | refine andThen_ret ?_ | refine inBlock_normal ?_ | refine inBlock_ret ?_ | refine inBlock_here ?_ | refine inBlock_out rfl ?_ | refine LWp.seq ?_ | refine LWp.region ?_ | refine LWp.block ?_ | refine LWp.exit ?_ | refine LWp.ret ?_ | refine LWp.skip ?_ | refine LOps.valA ?_ | refine LOps.outA ?_ | refine LOps.whenA ?_ | refine LOps.pickA ?_ | refine LOps.storeA ?_)
      refine LOps.do (LDo.push hD rfl rfl rfl rfl rfl rfl rfl rfl rfl rfl (show _ = w.length by simp) hB.own (by omega)) rfl rfl rfl ?_
      rintro _ S3 ⟨o3, rfl, own3, hup, hno⟩
      refine LOps.sound fun hs3 => ?_
      repeat (first | refine LOps.nil ?_ | refine andThen_normal ?_ | refine andThen_exit ?_ | refine andThen_ret ?_ | refine inBlock_normal ?_ | refine inBlock_ret ?_ | refine inBlock_here ?_ | refine inBlock_out rfl ?_ | refine LWp.seq ?_ | refine LWp.region ?_ | refine LWp.block ?_ | refine LWp.exit ?_ | refine LWp.ret ?_ | refine LWp.skip ?_ | refine LOps.valA ?_ | refine LOps.outA ?_ | refine LOps.whenA ?_ | refine LOps.pickA ?_ | refine LOps.storeA ?_)
      have ho3 : S1.only (fun x => ow = .own x) S3 := .upto hup fun x hx => hx
      refine ⟨l.length - (j + 1), by omega, _, j + 1, F1, w ++ [x], put1 f x.id k, o3, by omega, rfl, ⟨hB.le.upto hup hB.out, hB.new, fun y hy => Nat.lt_of_lt_of_le (hB.top y hy) hup.top, own3.ofN (by simp), hB.out.next hB.le hno, fun y hy => ?_, fun y hy => ?_⟩, hH.only ho3 (fun y hy e => hB.apart y e hy), hK.put ht, by simp; omega, ?_, holds.over ⟨rfl, rfl, by rw [List.map_append]; rfl, rfl, trivial⟩⟩
      · rcases hno y hy with e | e
        · exact hB.apart y e
        · intro hf; have := hB.top y hf; have := e.top; omega
      · subst hy; exact row_top own3 hs3.wf
      · intro e he
        rcases List.mem_append.1 he with he | he
        · exact hws e he
        · obtain rfl : e = x := by simpa using he
          exact hxw
  · have hge : l.length ≤ j := by simpa using h
    repeat (first | refine LOps.nil ?_ | refine andThen_normal ?_ | refine andThen_exit ?_ | refine andThen_ret ?_ | refine inBlock_normal ?_ | refine inBlock_ret ?_ | refine inBlock_here ?_ | refine inBlock_out rfl ?_ | refine LWp.seq ?_ | refine LWp.region ?_ | refine LWp.block ?_ | refine LWp.exit ?_ | refine LWp.ret ?_ | refine LWp.skip ?_ | refine LOps.valA ?_ | refine LOps.outA ?_ | refine LOps.whenA ?_ | refine LOps.pickA ?_ | refine LOps.storeA ?_)
    refine LOps.do (LDo.callF (events_L hP F b w f (by omega) (fun e he => by have := hws e he; omega) S' hH) (by rw [hP]; exact Try.func17)) rfl rfl rfl ?_
    rintro _ S1 ⟨rfl, le1⟩
    have hsame := same_F hP w w (by omega) (fun e he => by have := hws e he; omega)
    rw [decide_eq_true rfl] at hsame
    repeat (first | refine LOps.nil ?_ | refine andThen_normal ?_ | refine andThen_exit ?_ | refine andThen_ret ?_ | refine inBlock_normal ?_ | refine inBlock_ret ?_ | refine inBlock_here ?_ | refine inBlock_out rfl ?_ | refine LWp.seq ?_ | refine LWp.region ?_ | refine LWp.block ?_ | refine LWp.exit ?_ | refine LWp.ret ?_ | refine LWp.skip ?_ | refine LOps.val (LVal.call rfl rfl (by rw [hP]; exact Try.func16) rfl (by decide) (hsame)) rfl rfl rfl ?_ | refine LOps.whenC (LVal.call rfl rfl (by rw [hP]; exact Try.func16) rfl (by decide) (hsame)) ?_ | refine LOps.valA ?_ | refine LOps.outA ?_ | refine LOps.whenA ?_ | refine LOps.pickA ?_ | refine LOps.storeA ?_)
    refine LOps.do (LDo.callF (wakes_L hP _) (by rw [hP]; exact Try.func9)) rfl rfl rfl ?_
    rintro _ S2 ⟨rfl, _⟩
    repeat (first | refine LOps.nil ?_ | refine andThen_normal ?_ | refine andThen_exit ?_ | refine andThen_ret ?_ | refine inBlock_normal ?_ | refine inBlock_ret ?_ | refine inBlock_here ?_ | refine inBlock_out rfl ?_ | refine LWp.seq ?_ | refine LWp.region ?_ | refine LWp.block ?_ | refine LWp.exit ?_ | refine LWp.ret ?_ | refine LWp.skip ?_ | refine LOps.valA ?_ | refine LOps.outA ?_ | refine LOps.whenA ?_ | refine LOps.pickA ?_ | refine LOps.storeA ?_)
    exact ⟨_, LRes.one rfl, rfl⟩
end Go.Proofs.Ytmdfjojohfhcgaa.LF
