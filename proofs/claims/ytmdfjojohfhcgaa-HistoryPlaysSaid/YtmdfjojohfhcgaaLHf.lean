/- The plain law: what the rules take is what the document's row takes. -/
import Derived.Test.YtmdfjojohfhcgaaLHe
set_option linter.unusedVariables false
set_option linter.unusedSimpArgs false
namespace Go.Proofs.Ytmdfjojohfhcgaa.LF
open Go.RowKit

structure KnownAt (w : List Ev) (k : Kn) (id : Int) : Prop where
  st : (k.st = 0 ∧ countS w 1 id = 0 ∧ countS w 2 id = 0 ∧ countS w 3 id = 0) ∨ (k.st = 1 ∧ countS w 1 id = 1 ∧ countS w 2 id = 0 ∧ countS w 3 id = 0) ∨ (k.st = 2 ∧ countS w 1 id = 1 ∧ countS w 2 id = 1 ∧ countS w 3 id = 0) ∨ (k.st = 3 ∧ countS w 1 id = 1 ∧ countS w 2 id = 1 ∧ countS w 3 id = 1)
  ans : k.ans = answerS w id
def Known (w : List Ev) (f : Int → Kn) : Prop := ∀ id, KnownAt w (f id) id

theorem Known.nil : Known [] fun _ => noKn := fun _ => ⟨.inl ⟨rfl, rfl, rfl, rfl⟩, rfl⟩

theorem count_snoc (w : List Ev) (e : Ev) (k id : Int) : countS (w ++ [e]) k id = countS w k id + if isEv k id e then 1 else 0 := by
  unfold countS
  rw [List.countP_append]
  simp [List.countP_cons]
theorem answer_snoc (w : List Ev) (e : Ev) (id : Int) : answerS (w ++ [e]) id = if countS w 2 id = 0 then (if isEv 2 id e then e.ans else noAns) else answerS w id := by
  unfold answerS
  rw [List.find?_append]
  cases hq : w.find? (isEv 2 id) with
  | none =>
    have : countS w 2 id = 0 := by
      unfold countS
      rw [List.countP_eq_zero]
      exact List.find?_eq_none.1 hq
    rw [if_pos this]
    cases hi : isEv 2 id e <;> simp [hi]
  | some x =>
    have : countS w 2 id ≠ 0 := by
      unfold countS
      intro h0
      rw [List.countP_eq_zero] at h0
      exact h0 x (List.mem_of_find?_eq_some hq) (by simpa using List.find?_some hq)
    rw [if_neg this]; simp
theorem answer_none {w : List Ev} {id : Int} (h : countS w 2 id = 0) : answerS w id = noAns := by
  unfold answerS
  unfold countS at h
  rw [List.countP_eq_zero] at h
  rw [List.find?_eq_none.2 h]

theorem isEv_iff (k id : Int) (e : Ev) : isEv k id e = true ↔ e.kind = k ∧ e.id = id := by simp [isEv]
theorem isEv_self (e : Ev) : isEv e.kind e.id e = true := (isEv_iff _ _ _).2 ⟨rfl, rfl⟩
theorem isEv_kind {k id : Int} {e : Ev} (h : e.kind ≠ k) : isEv k id e = false := by
  cases hq : isEv k id e with
  | false => rfl
  | true => exact absurd ((isEv_iff _ _ _).1 hq).1 h
theorem isEv_id {k id : Int} {e : Ev} (h : e.id ≠ id) : isEv k id e = false := by
  cases hq : isEv k id e with
  | false => rfl
  | true => exact absurd ((isEv_iff _ _ _).1 hq).2 h

theorem bad_iff {k : Kn} {e : Ev} (n : Int) (hn : k.st = n) (h0 : 0 ≤ n ∧ n ≤ 3) : badS k e = false ↔ 1 ≤ e.id ∧ e.kind = n + 1 ∧ e.kind ≤ 3 := by
  have hw : IntKind.u8.wrap (k.st + 1) = n + 1 := by
    rw [hn]
    rcases (by omega : n = 0 ∨ n = 1 ∨ n = 2 ∨ n = 3) with rfl | rfl | rfl | rfl <;> decide
  unfold badS
  rw [hw]
  simp
  omega

/-- The rules take just what fits. -/
theorem takes_fits {w : List Ev} {k : Kn} {e : Ev} (h : KnownAt w k e.id) : (takesS k e).isSome = fitsS w e := by
  cases hb : badS k e with
  | true =>
    have e1 : takesS k e = none := by unfold takesS; rw [hb]; rfl
    rw [e1]
    symm
    show fitsS w e = false
    have hnb : ∀ n : Int, k.st = n → 0 ≤ n ∧ n ≤ 3 → ¬ (1 ≤ e.id ∧ e.kind = n + 1 ∧ e.kind ≤ 3) := fun n hn h0 hc => by
      have := (bad_iff n hn h0).2 hc
      rw [hb] at this; cases this
    unfold fitsS
    by_cases h1 : e.id < 1
    · rw [if_pos h1]
    · rw [if_neg h1]
      rcases h.st with ⟨s, c1, c2, c3⟩ | ⟨s, c1, c2, c3⟩ | ⟨s, c1, c2, c3⟩ | ⟨s, c1, c2, c3⟩ <;> have := hnb _ s (by omega) <;> rw [c1, c2, c3] <;>
        by_cases k1 : e.kind = 1 <;> by_cases k2 : e.kind = 2 <;> by_cases k3 : e.kind = 3 <;> simp [k1, k2, k3] <;> omega
  | false =>
    have e1 : takesS k e = if e.kind = 1 then (if e.ans = noAns then some ⟨e.kind, k.ans⟩ else none)
      else if e.kind = 2 then (if bareS e.op then some ⟨e.kind, e.ans⟩ else none)
      else if e.kind = 3 then (if !bareS e.op || !decide (e.ans = k.ans) then none else some ⟨e.kind, k.ans⟩)
      else some ⟨e.kind, k.ans⟩ := by unfold takesS; rw [hb]; rfl
    rw [e1]
    unfold fitsS
    rcases h.st with ⟨s, c1, c2, c3⟩ | ⟨s, c1, c2, c3⟩ | ⟨s, c1, c2, c3⟩ | ⟨s, c1, c2, c3⟩ <;> obtain ⟨h1, h2, h3⟩ := (bad_iff _ s (by omega)).1 hb <;> rw [c1, c2, c3] <;> have n1 : ¬ e.id < 1 := by omega
    · have k1 : e.kind = 1 := by omega
      by_cases ha : e.ans = noAns <;> simp [n1, k1, ha]
    · have k2 : e.kind = 2 := by omega
      cases bareS e.op <;> simp [n1, k2]
    · have k3 : e.kind = 3 := by omega
      rw [h.ans]
      cases bareS e.op <;> by_cases ha : e.ans = answerS w e.id <;> simp [n1, k3, ha]
    · omega

theorem Known.put {w : List Ev} {f : Int → Kn} (h : Known w f) {e : Ev} {k : Kn} (hk : takesS (f e.id) e = some k) : Known (w ++ [e]) (put1 f e.id k) := by
  intro id
  by_cases hid : id = e.id
  · subst hid
    have hp : put1 f e.id k e.id = k := by simp [put1]
    rw [hp]
    have hK := h e.id
    have hb : badS (f e.id) e = false := by
      cases hb : badS (f e.id) e with
      | false => rfl
      | true => unfold takesS at hk; rw [hb] at hk; cases hk
    have e1 : takesS (f e.id) e = if e.kind = 1 then (if e.ans = noAns then some ⟨e.kind, (f e.id).ans⟩ else none)
      else if e.kind = 2 then (if bareS e.op then some ⟨e.kind, e.ans⟩ else none)
      else if e.kind = 3 then (if !bareS e.op || !decide (e.ans = (f e.id).ans) then none else some ⟨e.kind, (f e.id).ans⟩)
      else some ⟨e.kind, (f e.id).ans⟩ := by unfold takesS; rw [hb]; rfl
    rw [e1] at hk
    have hkk : ∀ j : Int, isEv j e.id e = decide (e.kind = j) := fun j => by
      by_cases hj : e.kind = j
      · subst hj; simp [isEv_self]
      · simp [isEv_kind hj, hj]
    rcases hK.st with ⟨s, c1, c2, c3⟩ | ⟨s, c1, c2, c3⟩ | ⟨s, c1, c2, c3⟩ | ⟨s, c1, c2, c3⟩ <;> obtain ⟨h1, h2, h3⟩ := (bad_iff _ s (by omega)).1 hb
    · have k1 : e.kind = 1 := by omega
      rw [if_pos k1] at hk
      split at hk
      · obtain rfl := Option.some.inj hk
        refine ⟨.inr (.inl ⟨k1, ?_, ?_, ?_⟩), ?_⟩
        · rw [count_snoc, hkk, c1]; simp [k1]
        · rw [count_snoc, hkk, c2]; simp [k1]
        · rw [count_snoc, hkk, c3]; simp [k1]
        · rw [answer_snoc, if_pos c2, hkk, hK.ans, answer_none c2]; simp [k1]
      · cases hk
    · have k2 : e.kind = 2 := by omega
      rw [if_neg (by omega), if_pos k2] at hk
      split at hk
      · obtain rfl := Option.some.inj hk
        refine ⟨.inr (.inr (.inl ⟨k2, ?_, ?_, ?_⟩)), ?_⟩
        · rw [count_snoc, hkk, c1]; simp [k2]
        · rw [count_snoc, hkk, c2]; simp [k2]
        · rw [count_snoc, hkk, c3]; simp [k2]
        · rw [answer_snoc, if_pos c2, hkk]; simp [k2]
      · cases hk
    · have k3 : e.kind = 3 := by omega
      rw [if_neg (by omega), if_neg (by omega), if_pos k3] at hk
      split at hk
      · cases hk
      · obtain rfl := Option.some.inj hk
        refine ⟨.inr (.inr (.inr ⟨k3, ?_, ?_, ?_⟩)), ?_⟩
        · rw [count_snoc, hkk, c1]; simp [k3]
        · rw [count_snoc, hkk, c2]; simp [k3]
        · rw [count_snoc, hkk, c3]; simp [k3]
        · rw [answer_snoc, if_neg (by omega)]; exact hK.ans
    · omega
  · have hp : put1 f e.id k id = f id := by simp [put1, hid]
    rw [hp]
    have hz : ∀ j : Int, countS (w ++ [e]) j id = countS w j id := fun j => by
      rw [count_snoc, isEv_id (Ne.symm hid)]; simp
    obtain ⟨g1, g2⟩ := h id
    refine ⟨by rw [hz, hz, hz]; exact g1, ?_⟩
    rw [answer_snoc, isEv_id (Ne.symm hid), g2]
    split
    · rename_i h0; rw [answer_none h0]; rfl
    · rfl
end Go.Proofs.Ytmdfjojohfhcgaa.LF
