/- Plain: what linear.Some's closure answers is that the row can be gone on with. -/
import Derived.Test.YtandbjhedkgldaaLLm
namespace Go.Proofs.Ytandbjhedkgldaa.LF
open Go.RowKit H
set_option linter.unusedVariables false

theorem foldSet_keep {p : Pr} : ∀ (l m : List Pr), Srt m → p ∈ m → (∀ q ∈ l, q.key ≠ p.key) → p ∈ l.foldl (fun m q => setP m q.key q.val) m
  | [], m, _, h, _ => h
  | q :: l, m, hm, h, hk => foldSet_keep l _ (hm.set _ _) ((mem_setP hm _ _ _).2 (.inr ⟨h, fun e => hk q (by simp) e.symm⟩)) fun x hx => hk x (List.mem_cons_of_mem _ hx)
theorem foldSet_mem {p : Pr} : ∀ (l m : List Pr), Srt m → p ∈ l → l.Pairwise (fun a b => a.key ≠ b.key) → p ∈ l.foldl (fun m q => setP m q.key q.val) m
  | [], m, _, h, _ => by cases h
  | q :: l, m, hm, h, hp => by
    obtain ⟨h1, h2⟩ := List.pairwise_cons.1 hp
    rcases List.mem_cons.1 h with rfl | h
    · exact foldSet_keep l _ (hm.set _ _) ((mem_setP hm _ _ _).2 (.inl rfl)) fun x hx e => h1 x hx e.symm
    · exact foldSet_mem l _ (hm.set _ _) h h2
theorem Srt.keys {l : List Pr} (h : Srt l) : l.Pairwise (fun a b => a.key ≠ b.key) := List.Pairwise.imp (fun {a b} hab e => by rw [e, ltS_irrefl] at hab; cases hab) h
theorem newP_self {m : List Pr} (h : Srt m) : newP m = m :=
  Srt.ext (newP_srt m) h fun p => ⟨mem_newP, fun hp => foldSet_mem m [] .nil hp h.keys⟩

theorem bit_or_at (t i j : Nat) : (t ||| 2 ^ i).testBit j = (t.testBit j || decide (i = j)) := by
  rw [Nat.testBit_or, Nat.testBit_two_pow]
theorem blocked_or {a t : Nat} (h : blocked a t = false) (i : Nat) : blocked a (t ||| 2 ^ i) = false := by
  have h1 : a &&& t = a := by simpa [blocked] using h
  have h2 : a &&& (t ||| 2 ^ i) = a := by
    refine Nat.eq_of_testBit_eq fun j => ?_
    have := congrArg (fun z => z.testBit j) h1
    simp only [Nat.testBit_and] at this
    rw [Nat.testBit_and, Nat.testBit_or]
    cases hq : a.testBit j with
    | false => rfl
    | true => rw [hq] at this; simp only [Bool.true_and] at this; rw [this]; rfl
  simp [blocked, h2]
theorem or_swap (t a b : Nat) : t ||| a ||| b = t ||| b ||| a := by rw [Nat.or_assoc, Nat.or_comm a b, ← Nat.or_assoc]

def Next (x : One) (m m' : List Pr) : Prop := if (x.ended && idleS x.a) = true then m' = m else (x.ended && !decide (doA m x.op = x.a)) = false ∧ m' = doM m x.op
/-- The row can be gone on with. -/
inductive Can (all : List One) : Nat → List Pr → Prop
  | done (t : Nat) (m : List Pr) (h : ∀ (i : Nat) (hi : i < all.length), all[i].ended = true → t.testBit i = true) : Can all t m
  | step (t : Nat) (m : List Pr) (i : Nat) (hi : i < all.length) (ht : t.testBit i = false) (hb : blocked all[i].ahead t = false) (m' : List Pr) (hm : Next all[i] m m') (k : Can all (t ||| 2 ^ i) m') : Can all t m
theorem Can.idle {all : List One} {t : Nat} {m : List Pr} (h : Can all t m) : ∀ {i : Nat} (hi : i < all.length), t.testBit i = false → blocked all[i].ahead t = false → (all[i].ended && idleS all[i].a) = true → Can all (t ||| 2 ^ i) m := by
  induction h with
  | done t m h =>
    intro i hi ht _ hx
    rw [Bool.and_eq_true] at hx
    rw [h i hi hx.1] at ht; cases ht
  | step t m j hj htj hbj m' hm k ih =>
    intro i hi ht hb hx
    by_cases e : i = j
    · subst e
      rw [Next, if_pos hx] at hm
      rw [← hm]; exact k
    · have k2 := ih hi (by rw [bit_or_at, ht, Bool.false_or]; simpa using fun h => e h.symm) (blocked_or hb j) hx
      rw [or_swap] at k2
      exact .step _ _ j hj (by rw [bit_or_at, htj, Bool.false_or]; simpa using e) (blocked_or hbj i) m' hm k2

theorem go_iff (all : List One) (rec : Nat → List Pr → Bool) (t : Nat) (at_ : List Pr)
    (h1 : ∀ i, i < all.length → t.testBit i = false → (rec (t ||| 2 ^ i) at_ = true ↔ Can all (t ||| 2 ^ i) (newP at_)))
    (h2 : ∀ (i : Nat) (hi : i < all.length), t.testBit i = false → (rec (t ||| 2 ^ i) (doM (newP at_) all[i].op) = true ↔ Can all (t ||| 2 ^ i) (doM (newP at_) all[i].op))) :
    ∀ (d j : Nat) (left : Bool), j ≤ all.length → d = all.length - j → (left = true ↔ ∃ (i : Nat) (hi : i < all.length), i < j ∧ t.testBit i = false ∧ all[i].ended = true) →
      (∀ (i : Nat) (hi : i < all.length), i < j → t.testBit i = false → blocked all[i].ahead t = false → ∀ m', Next all[i] (newP at_) m' → ¬ Can all (t ||| 2 ^ i) m') →
      (goS rec t at_ j (all.drop j) left = true ↔ Can all t (newP at_)) := by
  intro d
  induction d with
  | zero =>
    intro j left hj hd hl hn
    rw [List.drop_of_length_le (by omega), goS]
    constructor
    · intro h
      have hl2 : left = false := by simpa using h
      refine .done _ _ fun i hi he => ?_
      cases hq : t.testBit i with
      | true => rfl
      | false =>
        have := hl.2 ⟨i, hi, by omega, hq, he⟩
        rw [hl2] at this; cases this
    · intro h
      cases left with
      | false => rfl
      | true =>
        obtain ⟨i, hi, _, hq, he⟩ := hl.1 rfl
        cases h with
        | done _ _ h => rw [h i hi he] at hq; cases hq
        | step _ _ i2 hi2 ht hb m' hm k => exact absurd k (hn i2 hi2 (by omega) ht hb m' hm)
  | succ d ih =>
    intro j left hj hd hl hn
    have hlt : j < all.length := by clear hl hn ih; omega
    have hd' : d = all.length - (j + 1) := by clear hl hn ih; omega
    rw [List.drop_eq_getElem_cons hlt, goS]
    have grow : t.testBit j = false → ((left || all[j].ended) = true ↔ ∃ (i : Nat) (hi : i < all.length), i < j + 1 ∧ t.testBit i = false ∧ all[i].ended = true) := fun htj => by
      rw [Bool.or_eq_true, hl]
      constructor
      · rintro (⟨i, hi, h3, h4⟩ | h)
        · exact ⟨i, hi, by omega, h4⟩
        · exact ⟨j, hlt, by omega, htj, h⟩
      · rintro ⟨i, hi, h3, h4, h5⟩
        by_cases e : i = j
        · subst e; exact .inr h5
        · exact .inl ⟨i, hi, by omega, h4, h5⟩
    have none : (t.testBit j = false → blocked all[j].ahead t = false → ∀ m', Next all[j] (newP at_) m' → ¬ Can all (t ||| 2 ^ j) m') → ∀ (i : Nat) (hi : i < all.length), i < j + 1 → t.testBit i = false → blocked all[i].ahead t = false → ∀ m', Next all[i] (newP at_) m' → ¬ Can all (t ||| 2 ^ i) m' := fun h i hi h3 => by
      by_cases e : i = j
      · subst e; exact h
      · exact hn i hi (by omega)
    by_cases c1 : t.testBit j = true
    · rw [if_pos c1]
      refine ih (j + 1) left hlt hd' ?_ (none fun h => by rw [c1] at h; cases h)
      rw [hl]
      constructor
      · rintro ⟨i, hi, h3, h4⟩; exact ⟨i, hi, by omega, h4⟩
      · rintro ⟨i, hi, h3, h4, h5⟩
        by_cases e : i = j
        · subst e; rw [c1] at h4; cases h4
        · exact ⟨i, hi, by omega, h4, h5⟩
    have htj : t.testBit j = false := by simpa using c1
    rw [if_neg c1]
    by_cases c2 : blocked all[j].ahead t = true
    · rw [if_pos c2]
      exact ih (j + 1) _ hlt hd' (grow htj) (none fun _ h => by rw [c2] at h; cases h)
    have hbj : blocked all[j].ahead t = false := by simpa using c2
    rw [if_neg c2]
    by_cases c3 : (all[j].ended && idleS all[j].a) = true
    · rw [if_pos c3, h1 j hlt htj]
      exact ⟨fun k => .step _ _ j hlt htj hbj _ (by rw [Next, if_pos c3]) k, fun k => k.idle hlt htj hbj c3⟩
    rw [if_neg c3]
    by_cases c4 : (all[j].ended && !decide (doA (newP at_) all[j].op = all[j].a)) = true
    · rw [if_pos c4]
      refine ih (j + 1) _ hlt hd' (grow htj) (none fun _ _ m' hm => ?_)
      rw [Next, if_neg c3, c4] at hm
      cases hm.1
    rw [if_neg c4]
    have c4' : (all[j].ended && !decide (doA (newP at_) all[j].op = all[j].a)) = false := by simpa using c4
    by_cases c5 : rec (t ||| 2 ^ j) (doM (newP at_) all[j].op) = true
    · rw [if_pos c5]
      exact ⟨fun _ => .step _ _ j hlt htj hbj _ (by rw [Next, if_neg c3]; exact ⟨c4', rfl⟩) ((h2 j hlt htj).1 c5), fun _ => rfl⟩
    · rw [if_neg c5]
      refine ih (j + 1) _ hlt hd' (grow htj) (none fun _ _ m' hm => ?_)
      rw [Next, if_neg c3] at hm
      rw [hm.2]
      exact fun k => c5 ((h2 j hlt htj).2 k)
theorem try_iff (all : List One) (hal : all.length ≤ 7) : ∀ (n t : Nat) (at_ : List Pr), t < 128 → cnt all.length t < n → (tryS all n t at_ = true ↔ Can all t (newP at_))
  | 0, _, _, _, h => absurd h (by omega)
  | n + 1, t, at_, ht, hc => by
    rw [tryS]
    have key : ∀ i, i < all.length → t.testBit i = false → ∀ m, (tryS all n (t ||| 2 ^ i) m = true ↔ Can all (t ||| 2 ^ i) (newP m)) := fun i hi hti m =>
      try_iff all hal n _ m (or_lt t ht i (by omega)) (by have := cnt_or all.length (by omega) t ht i hi hti; omega)
    exact go_iff all _ t at_ (fun i hi hti => key i hi hti _) (fun i hi hti => by
      have := key i hi hti (doM (newP at_) all[i].op)
      rwa [newP_self (doM_srt (newP_srt _) _)] at this) _ 0 false (by omega) rfl (by simp) (fun i hi h => by omega)
theorem some_iff (all : List One) (hal : all.length ≤ 7) (l : List Pr) : tryS all (all.length + 1) 0 l = true ↔ Can all 0 (newP l) :=
  try_iff all hal _ 0 l (by decide) (by
    have := List.countP_le_length (p := fun i => !(0 : Nat).testBit i) (l := List.range all.length)
    rw [List.length_range] at this
    unfold cnt; omega)
end Go.Proofs.Ytandbjhedkgldaa.LF
