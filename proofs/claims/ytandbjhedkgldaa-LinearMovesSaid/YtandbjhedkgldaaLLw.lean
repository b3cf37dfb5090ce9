/- LinearIdle, plain: the row without the operations that found no room or no place. -/
import Derived.Test.YtandbjhedkgldaaLLr
namespace Go.Proofs.Ytandbjhedkgldaa.LF
open Go.RowKit H
set_option linter.unusedVariables false

/-- Is a number's answer full or busy, and marked? -/
def dropI (l : List Ev) (id : Int) : Bool := decide (stN (hasE l 1 id) (hasE l 2 id) (hasE l 3 id) ≥ 2) && idleS (findE l 2 id).ans
def keepE (l : List Ev) : List Ev := l.filter fun e => !dropI l e.id
section
variable {D : Int → Bool}
def kept (D : Int → Bool) (w : List Ev) : List Ev := w.filter fun e => !D e.id
theorem kept_count (D : Int → Bool) (w : List Ev) (k id : Int) (h : D id = false) : countS (kept D w) k id = countS w k id := by
  unfold countS kept
  rw [List.countP_filter]
  refine List.countP_congr fun e he => ?_
  simp only [Bool.and_eq_true, Bool.not_eq_true']
  constructor
  · exact fun hx => hx.1
  · intro hx
    have := ((isEv_iff _ _ _).1 hx).2
    exact ⟨hx, by rw [this]; exact h⟩
theorem kept_find (D : Int → Bool) (w : List Ev) (k id : Int) (h : D id = false) : (kept D w).find? (isEv k id) = w.find? (isEv k id) := by
  unfold kept
  rw [List.find?_filter]
  congr 1
  funext e
  cases hx : isEv k id e with
  | false => simp
  | true =>
    have := ((isEv_iff _ _ _).1 hx).2
    rw [this, h]; rfl
theorem kept_answer (D : Int → Bool) (w : List Ev) (id : Int) (h : D id = false) : answerS (kept D w) id = answerS w id := by
  unfold answerS; rw [kept_find D w 2 id h]
theorem kept_fits (D : Int → Bool) (w : List Ev) (e : Ev) (h : D e.id = false) : fitsS (kept D w) e = fitsS w e := by
  unfold fitsS
  rw [kept_count D w 1 e.id h, kept_count D w 2 e.id h, kept_count D w 3 e.id h, kept_answer D w e.id h]
end
/-- The converse of ok_fits: what fits all the way is taken. -/
theorem ok_of_fits : ∀ (l w : List Ev) (f : Int → Kn), Known w f → (∀ (j : Nat) (h : j < l.length), fitsS (w ++ l.take j) l[j] = true) → okS f l
  | [], _, _, _, _ => trivial
  | e :: l, w, f, hk, h => by
    have h0 : fitsS w e = true := by have := h 0 (by simp); simpa using this
    have h1 := takes_fits (hk e.id)
    rw [h0] at h1
    cases hq : takesS (f e.id) e with
    | none => rw [hq] at h1; cases h1
    | some k =>
      have := ok_of_fits l (w ++ [e]) (put1 f e.id k) (hk.put hq) fun j hj => by
        have := h (j + 1) (by simp; omega)
        simpa using this
      exact ⟨k, hq, this⟩
theorem ok_of_right {l : List Ev} (R : Right l) : okS (fun _ => noKn) l := ok_of_fits l [] _ Known.nil fun j h => by simpa using R j h
theorem kept_snoc (D : Int → Bool) (w : List Ev) (e : Ev) : kept D (w ++ [e]) = kept D w ++ if D e.id then [] else [e] := by
  unfold kept
  rw [List.filter_append]
  congr 1
  cases h : D e.id <;> simp [h]
/-- What is kept of a right row is right. -/
theorem kept_right (D : Int → Bool) {l : List Ev} (R : Right l) : ∀ n, n ≤ l.length → okS (fun _ => noKn) (kept D (l.take n)) ∧ Right (kept D (l.take n))
  | 0, _ => ⟨trivial, fun j hj => by simp [kept] at hj⟩
  | n + 1, hn => by
    have hlt : n < l.length := by omega
    obtain ⟨h1, h2⟩ := kept_right D R n (by omega)
    have R2 : Right (kept D (l.take (n + 1))) := by
      rw [List.take_succ_eq_append_getElem hlt, kept_snoc]
      by_cases hd : D l[n].id = true
      · rw [if_pos hd, List.append_nil]; exact h2
      · rw [if_neg hd]
        intro j hj
        have hd' : D l[n].id = false := by simpa using hd
        by_cases e : j < (kept D (l.take n)).length
        · rw [List.getElem_append_left e, List.take_append_of_le_length (by omega)]; exact h2 j e
        · have e2 : j = (kept D (l.take n)).length := by simp at hj; omega
          subst e2
          rw [List.getElem_append_right (by omega), List.take_left' rfl]
          simp only [Nat.sub_self, List.getElem_cons_zero]
          rw [kept_fits D _ _ hd']; exact R n hlt
    exact ⟨ok_of_right R2, R2⟩

/-- One event, without its place. -/
def stepB (ops : Int → OpV) (s : List Pr × Bool) (e : Ev) : List Pr × Bool :=
  if ((e.kind != 2) || idleS e.ans) = true then s else (doM s.1 (ops e.id), s.2 && decide (doA s.1 (ops e.id) = e.ans))
theorem runT_B (ops : Int → OpV) (l : List Ev) (m : List Pr) : ∀ n, n ≤ l.length → (runT ops l m n).1 = ((l.take n).foldl (stepB ops) (m, true)).1 ∧ decide ((runT ops l m n).2 < 0) = ((l.take n).foldl (stepB ops) (m, true)).2
  | 0, _ => ⟨rfl, rfl⟩
  | n + 1, hn => by
    have hlt : n < l.length := by omega
    obtain ⟨h1, h2⟩ := runT_B ops l m n (by omega)
    rw [runT_succ ops m hlt, List.take_succ_eq_append_getElem hlt, List.foldl_append, List.foldl_cons, List.foldl_nil]
    generalize (l.take n).foldl (stepB ops) (m, true) = s at *
    generalize runT ops l m n = r at *
    unfold runStep stepB
    by_cases c : ((l[n].kind != 2) || idleS l[n].ans) = true
    · rw [if_pos c, if_pos c]; exact ⟨h1, h2⟩
    · rw [if_neg c, if_neg c, h1]
      refine ⟨rfl, ?_⟩
      dsimp only
      rw [← h2]
      by_cases e : doA s.1 (ops l[n].id) = l[n].ans
      · simp [e]
      · by_cases hr : r.2 < 0
        · simp [e, hr]
        · simp [e, hr]
theorem stepB_congr {f g : Int → OpV} {e : Ev} {s : List Pr × Bool} (h : e.kind = 2 → f e.id = g e.id) : stepB f s e = stepB g s e := by
  unfold stepB
  by_cases c : ((e.kind != 2) || idleS e.ans) = true
  · rw [if_pos c, if_pos c]
  · have hk : e.kind = 2 := by
      by_cases h2 : e.kind = 2
      · exact h2
      · exact absurd (by simp [h2]) c
    rw [if_neg c, if_neg c, h hk]
theorem foldB_congr {f g : Int → OpV} : ∀ (l : List Ev) (s : List Pr × Bool), (∀ e ∈ l, f e.id = g e.id) → l.foldl (stepB f) s = l.foldl (stepB g) s
  | [], _, _ => rfl
  | e :: l, s, h => by
    rw [List.foldl_cons, List.foldl_cons, stepB_congr (fun _ => h e (by simp))]
    exact foldB_congr l _ fun x hx => h x (List.mem_cons_of_mem _ hx)
theorem foldB_kept (ops : Int → OpV) (D : Int → Bool) : ∀ (l : List Ev) (s : List Pr × Bool), (∀ e ∈ l, D e.id = true → ((e.kind != 2) || idleS e.ans) = true) → (kept D l).foldl (stepB ops) s = l.foldl (stepB ops) s
  | [], _, _ => rfl
  | e :: l, s, h => by
    have ih := fun s => foldB_kept ops D l s fun x hx => h x (List.mem_cons_of_mem _ hx)
    unfold kept at ih ⊢
    rw [List.filter_cons]
    by_cases hd : D e.id = true
    · rw [if_neg (by rw [hd]; decide), ih, List.foldl_cons]
      congr 1
      rw [stepB, if_pos (h e (by simp) hd)]
    · rw [if_pos (by simpa using hd), List.foldl_cons, List.foldl_cons, ih]
/-- The row without them is right, and linear, just if the row is, and comes to the same. -/
theorem idle_same {l : List Pr} {evs : List Ev} (h0 : (checkS (fun _ => noKn) evs 0).2 = 0) : (checkL l (kept (dropI evs) evs)).2 = (checkL l evs).2 ∧ afterL l (kept (dropI evs) evs) = afterL l evs := by
  have R := right_of_check h0
  have hk := kept_right (dropI evs) R evs.length (Nat.le_refl _)
  rw [List.take_length] at hk
  obtain ⟨okk, Rk⟩ := hk
  have h0k : (checkS (fun _ => noKn) (kept (dropI evs) evs) 0).2 = 0 := by rw [check_of_ok okk]
  have key : (wit l (kept (dropI evs) evs)).1 = (wit l evs).1 ∧ decide ((wit l (kept (dropI evs) evs)).2 < 0) = decide ((wit l evs).2 < 0) := by
    rw [wit_of R, wit_of Rk]
    obtain ⟨a1, a2⟩ := runT_B (opOf evs) evs (newP l) evs.length (Nat.le_refl _)
    obtain ⟨b1, b2⟩ := runT_B (opOf (kept (dropI evs) evs)) (kept (dropI evs) evs) (newP l) _ (Nat.le_refl _)
    rw [List.take_length] at a1 a2 b1 b2
    have e : (kept (dropI evs) evs).foldl (stepB (opOf (kept (dropI evs) evs))) (newP l, true) = evs.foldl (stepB (opOf evs)) (newP l, true) := by
      rw [← foldB_kept (opOf evs) (dropI evs) evs _ fun e he hd => ?_]
      · refine foldB_congr _ _ fun e he => ?_
        have : dropI evs e.id = false := by
          have := (List.mem_filter.1 he).2
          simpa using this
        unfold opOf findE
        rw [kept_find _ _ _ _ this]
      · by_cases h2 : e.kind = 2
        · obtain ⟨j, hj, rfl⟩ := List.getElem_of_mem he
          have ha := mark_answer R hj ((isEv_iff 2 evs[j].id _).2 ⟨h2, rfl⟩)
          unfold dropI at hd
          rw [← answer_find, ha, Bool.and_eq_true] at hd
          rw [hd.2, Bool.or_true]
        · simp [h2]
    rw [e] at b1 b2
    exact ⟨b1.trans a1.symm, b2.trans a2.symm⟩
  obtain ⟨k1, k2⟩ := key
  have cl : ∀ (x : List Ev), (checkS (fun _ => noKn) x 0).2 = 0 → (checkL l x).2 = if (wit l x).2 < 0 then 0 else 32 := fun x hx => by
    unfold checkL
    rw [if_neg (by rw [hx]; decide)]
    by_cases c : (wit l x).2 < 0
    · rw [if_pos c, if_neg (by simp; omega)]
    · rw [if_neg c, if_pos (by simp; omega)]
  have al : ∀ (x : List Ev), (checkS (fun _ => noKn) x 0).2 = 0 → afterL l x = (wit l x).1 := fun x hx => by
    unfold afterL
    rw [if_neg (by rw [hx]; decide)]
  rw [cl _ h0, cl _ h0k, al _ h0, al _ h0k]
  refine ⟨?_, k1⟩
  by_cases c : (wit l evs).2 < 0
  · have c2 : (wit l (kept (dropI evs) evs)).2 < 0 := by rw [decide_eq_true c] at k2; exact of_decide_eq_true k2
    rw [if_pos c, if_pos c2]
  · have c2 : ¬ (wit l (kept (dropI evs) evs)).2 < 0 := by rw [decide_eq_false c] at k2; exact of_decide_eq_false k2
    rw [if_neg c, if_neg c2]
end Go.Proofs.Ytandbjhedkgldaa.LF
