/- Children sorted by their bytes: what is told of them, what becomes of them (plain). -/
import Derived.Test.YtinbibeapooghaaLRw
import Derived.Test.YtinbibeapooghaaLGa
import Derived.Test.YtinbibeapooghaaLFtab
set_option linter.unusedVariables false
set_option linter.unusedSimpArgs false
namespace Go.Proofs.Ytinbibeapooghaa.LF
open Go.RowKit
set_option linter.unusedVariables false

section
variable {α : Type}
abbrev Kv (α : Type) := List (Nat × α)
structure KS (l : Kv α) : Prop where
  srt : l.Pairwise fun p q => p.1 < q.1
  lt : ∀ p ∈ l, p.1 < 256
def lk : Kv α → Nat → Option α
  | [], _ => none
  | p :: l, b => if p.1 = b then some p.2 else lk l b
def setL : Kv α → Nat → α → Kv α
  | [], b, x => [(b, x)]
  | p :: l, b, x => if p.1 < b then p :: setL l b x else if p.1 = b then (b, x) :: l else (b, x) :: p :: l
def delL : Kv α → Nat → Kv α
  | [], _ => []
  | p :: l, b => if p.1 = b then l else p :: delL l b
def posK : Kv α → Nat → Nat
  | [], _ => 0
  | p :: l, b => if p.1 < b then posK l b + 1 else 0
def hasK (l : Kv α) (b : Nat) : Bool := (lk l b).isSome
def fromL (l : Kv α) (b : Int) : Option (Nat × α) := l.find? fun p => decide (b ≤ (p.1 : Int))

theorem KS.nil : KS ([] : Kv α) := ⟨.nil, by simp⟩
theorem KS.tail {p : Nat × α} {l : Kv α} (h : KS (p :: l)) : KS l := ⟨(List.pairwise_cons.1 h.srt).2, fun q hq => h.lt q (List.mem_cons_of_mem _ hq)⟩
theorem KS.head {p : Nat × α} {l : Kv α} (h : KS (p :: l)) : ∀ q ∈ l, p.1 < q.1 := (List.pairwise_cons.1 h.srt).1
theorem KS.cons {p : Nat × α} {l : Kv α} (h : KS l) (hp : p.1 < 256) (hl : ∀ q ∈ l, p.1 < q.1) : KS (p :: l) := ⟨List.pairwise_cons.2 ⟨hl, h.srt⟩, fun q hq => by
  rcases List.mem_cons.1 hq with rfl | hq
  · exact hp
  · exact h.lt q hq⟩
theorem lk_mem : ∀ {l : Kv α} {b : Nat} {x : α}, lk l b = some x → (b, x) ∈ l
  | [], b, x, h => by cases h
  | p :: l, b, x, h => by
    unfold lk at h
    split at h
    · rename_i e
      obtain rfl : p.2 = x := by simpa using h
      subst e
      exact List.mem_cons_self
    · exact List.mem_cons_of_mem _ (lk_mem h)
theorem lk_none : ∀ {l : Kv α} {b : Nat}, (∀ q ∈ l, q.1 ≠ b) → lk l b = none
  | [], b, _ => rfl
  | p :: l, b, h => by
    unfold lk
    rw [if_neg (h p List.mem_cons_self)]
    exact lk_none fun q hq => h q (List.mem_cons_of_mem _ hq)
theorem lk_after {p : Nat × α} {l : Kv α} (h : KS (p :: l)) {b : Nat} (hb : b ≤ p.1) : lk l b = none := lk_none fun q hq e => by have := h.head q hq; omega
theorem mem_setL : ∀ {l : Kv α} {b : Nat} {x : α} {q : Nat × α}, q ∈ setL l b x → q = (b, x) ∨ q ∈ l
  | [], b, x, q, h => .inl (by simpa [setL] using h)
  | p :: l, b, x, q, h => by
    unfold setL at h
    split at h
    · rcases List.mem_cons.1 h with rfl | h
      · exact .inr List.mem_cons_self
      · exact (mem_setL h).imp id (List.mem_cons_of_mem _)
    · split at h
      · rcases List.mem_cons.1 h with rfl | h
        · exact .inl rfl
        · exact .inr (List.mem_cons_of_mem _ h)
      · rcases List.mem_cons.1 h with rfl | h
        · exact .inl rfl
        · exact .inr h
theorem mem_delL : ∀ {l : Kv α} {b : Nat} {q : Nat × α}, q ∈ delL l b → q ∈ l
  | [], b, q, h => h
  | p :: l, b, q, h => by
    unfold delL at h
    split at h
    · exact List.mem_cons_of_mem _ h
    · rcases List.mem_cons.1 h with rfl | h
      · exact List.mem_cons_self
      · exact List.mem_cons_of_mem _ (mem_delL h)
theorem KS.set : ∀ {l : Kv α} {b : Nat}, KS l → b < 256 → ∀ x, KS (setL l b x)
  | [], b, h, hb, x => KS.nil.cons hb (by simp)
  | p :: l, b, h, hb, x => by
    unfold setL
    split
    · rename_i hlt
      refine (h.tail.set hb x).cons (h.lt p List.mem_cons_self) fun q hq => ?_
      rcases mem_setL hq with rfl | hq
      · exact hlt
      · exact h.head q hq
    · split
      · rename_i e
        exact h.tail.cons hb fun q hq => by have := h.head q hq; show b < q.1; omega
      · refine h.cons hb fun q hq => ?_
        rcases List.mem_cons.1 hq with rfl | hq
        · show b < q.1; omega
        · have := h.head q hq; show b < q.1; omega
theorem KS.del : ∀ {l : Kv α} {b : Nat}, KS l → KS (delL l b)
  | [], b, h => h
  | p :: l, b, h => by
    unfold delL
    split
    · exact h.tail
    · exact h.tail.del.cons (h.lt p List.mem_cons_self) fun q hq => h.head q (mem_delL hq)
theorem lk_set : ∀ {l : Kv α} {b : Nat} (x : α) (c : Nat), lk (setL l b x) c = if c = b then some x else lk l c
  | [], b, x, c => by
    simp only [setL, lk]
    by_cases h : b = c
    · simp [h]
    · have : c ≠ b := fun e => h e.symm
      simp [h, this]
  | p :: l, b, x, c => by
    unfold setL
    split
    · rename_i hlt
      simp only [lk, lk_set x c]
      by_cases h : p.1 = c
      · have : c ≠ b := by omega
        simp [h, this]
      · simp [h]
    · split
      · rename_i e
        simp only [lk]
        by_cases h : b = c
        · simp [h]
        · have : c ≠ b := fun e => h e.symm
          simp [h, this, e]
      · simp only [lk]
        by_cases h : b = c
        · simp [h]
        · have : c ≠ b := fun e => h e.symm
          simp [h, this]
theorem lk_del : ∀ {l : Kv α} {b : Nat}, KS l → ∀ c, lk (delL l b) c = if c = b then none else lk l c
  | [], b, h, c => by simp [delL, lk]
  | p :: l, b, h, c => by
    unfold delL
    split
    · rename_i e
      by_cases hc : c = b
      · rw [if_pos hc]; exact lk_after h (by omega)
      · rw [if_neg hc]
        have : p.1 ≠ c := by omega
        simp [lk, this]
    · rename_i e
      simp only [lk, lk_del h.tail c]
      by_cases hc : p.1 = c
      · have : c ≠ b := by omega
        simp [hc, this]
      · simp [hc]
theorem len_set : ∀ {l : Kv α} {b : Nat}, KS l → ∀ x, (setL l b x).length = if hasK l b then l.length else l.length + 1
  | [], b, h, x => by simp [setL, hasK, lk]
  | p :: l, b, h, x => by
    unfold setL
    split
    · rename_i hlt
      have : p.1 ≠ b := by omega
      have e : hasK (p :: l) b = hasK l b := by simp [hasK, lk, this]
      rw [e, List.length_cons, len_set h.tail x, List.length_cons]
      split <;> omega
    · split
      · rename_i e
        simp [hasK, lk, e]
      · rename_i h1 h2
        have := lk_after (p := p) (l := l) h (b := b) (by omega)
        simp [hasK, lk, h2, this]
theorem len_del : ∀ {l : Kv α} {b : Nat}, KS l → (delL l b).length = if hasK l b then l.length - 1 else l.length
  | [], b, h => by simp [delL, hasK, lk]
  | p :: l, b, h => by
    unfold delL
    split
    · rename_i e; simp [hasK, lk, e]
    · rename_i e
      have e2 : hasK (p :: l) b = hasK l b := by simp [hasK, lk, e]
      rw [e2, List.length_cons, len_del h.tail, List.length_cons]
      split
      · rename_i hs
        cases l with
        | nil => simp [hasK, lk] at hs
        | cons => simp
      · rfl
theorem posK_le : ∀ (l : Kv α) (b : Nat), posK l b ≤ l.length
  | [], b => Nat.le_refl _
  | p :: l, b => by
    unfold posK
    split
    · have := posK_le l b; simp; omega
    · simp
theorem posK_of : ∀ {l : Kv α} {b n : Nat} (hn : n ≤ l.length), (∀ (i : Nat) (hi : i < n), (l[i]'(by omega)).1 < b) → (∀ (h : n < l.length), ¬ l[n].1 < b) → posK l b = n
  | [], b, n, hn, _, _ => by simp at hn; subst hn; rfl
  | p :: l, b, 0, hn, _, h2 => by
    have := h2 (by simp)
    simp only [List.getElem_cons_zero] at this
    simp [posK, this]
  | p :: l, b, n + 1, hn, h1, h2 => by
    have h0 := h1 0 (by omega)
    simp only [List.getElem_cons_zero] at h0
    have ih := posK_of (l := l) (b := b) (n := n) (by simpa using hn) (fun i hi => by
      have := h1 (i + 1) (by omega)
      simpa using this) (fun h => by
      have := h2 (by simpa using h)
      simpa using this)
    simp [posK, h0, ih]
theorem hasK_at : ∀ {l : Kv α} {b : Nat}, KS l → hasK l b = true → ∃ h : posK l b < l.length, l[posK l b].1 = b ∧ lk l b = some l[posK l b].2
  | [], b, h, hk => by simp [hasK, lk] at hk
  | p :: l, b, h, hk => by
    by_cases e : p.1 = b
    · have e2 : posK (p :: l) b = 0 := by simp [posK, e]
      refine ⟨by rw [e2]; simp, ?_⟩
      simp [e2, e, lk]
    · by_cases hlt : p.1 < b
      · have hk2 : hasK l b = true := by simpa [hasK, lk, e] using hk
        obtain ⟨h1, h2, h3⟩ := hasK_at h.tail hk2
        have e2 : posK (p :: l) b = posK l b + 1 := by simp [posK, hlt]
        refine ⟨by rw [e2]; simpa using h1, ?_⟩
        simp [e2, h2, lk, e, h3]
      · have := lk_after (b := b) h (by omega)
        simp [hasK, lk, e, this] at hk
theorem hasK_not {l : Kv α} {b : Nat} (hk : hasK l b = false) : ∀ (i : Nat) (h : i < l.length), l[i].1 ≠ b := fun i h e => by
  have hn : lk l b = none := by simpa [hasK] using hk
  induction l generalizing i with
  | nil => simp at h
  | cons p l ih =>
    unfold lk at hn
    split at hn
    · cases hn
    · rename_i hp
      cases i with
      | zero => exact hp (by simpa using e)
      | succ i => exact ih (by simp [hasK, hn]) i (by simpa using h) (by simpa using e) hn
theorem setL_has : ∀ {l : Kv α} {b : Nat}, KS l → hasK l b = true → ∀ x, setL l b x = l.set (posK l b) (b, x)
  | [], b, h, hk, x => by simp [hasK, lk] at hk
  | p :: l, b, h, hk, x => by
    by_cases e : p.1 = b
    · simp [setL, posK, e]
    · by_cases hlt : p.1 < b
      · have hk2 : hasK l b = true := by simpa [hasK, lk, e] using hk
        simp [setL, posK, hlt, setL_has h.tail hk2 x]
      · have := lk_after (b := b) h (by omega)
        simp [hasK, lk, e, this] at hk
theorem setL_new : ∀ {l : Kv α} {b : Nat}, KS l → hasK l b = false → ∀ x, setL l b x = insL l (posK l b) (b, x)
  | [], b, h, hk, x => by simp [setL, posK, insL]
  | p :: l, b, h, hk, x => by
    have e : p.1 ≠ b := by have := hasK_not hk 0 (by simp); simpa using this
    by_cases hlt : p.1 < b
    · have hk2 : hasK l b = false := by simpa [hasK, lk, e] using hk
      simp [setL, posK, hlt, setL_new h.tail hk2 x, insL]
    · simp [setL, posK, hlt, e, insL]
theorem delL_has : ∀ {l : Kv α} {b : Nat}, KS l → hasK l b = true → delL l b = delL' l (posK l b)
  | [], b, h, hk => by simp [hasK, lk] at hk
  | p :: l, b, h, hk => by
    by_cases e : p.1 = b
    · simp [delL, posK, e, delL']
    · by_cases hlt : p.1 < b
      · have hk2 : hasK l b = true := by simpa [hasK, lk, e] using hk
        simp [delL, posK, hlt, e, delL_has h.tail hk2, delL']
      · have := lk_after (b := b) h (by omega)
        simp [hasK, lk, e, this] at hk
theorem KS.at {l : Kv α} (h : KS l) {i j : Nat} (hij : i < j) (hj : j < l.length) : (l[i]'(by omega)).1 < l[j].1 := List.pairwise_iff_getElem.1 h.srt i j _ hj hij
theorem lk_at {l : Kv α} (h : KS l) {i : Nat} (hi : i < l.length) : lk l l[i].1 = some l[i].2 := by
  induction l generalizing i with
  | nil => simp at hi
  | cons p l ih =>
    cases i with
    | zero => simp [lk]
    | succ i =>
      have hi2 : i < l.length := by simpa using hi
      have h1 := h.head l[i] (List.getElem_mem hi2)
      have : p.1 ≠ l[i].1 := by omega
      simp [lk, this, ih h.tail hi2]
theorem fromL_at {l : Kv α} {b : Int} : ∀ {j : Nat} (hj : j < l.length), (∀ (i : Nat) (hi : i < j), ¬ b ≤ ((l[i]'(by omega)).1 : Int)) → b ≤ (l[j].1 : Int) → fromL l b = some l[j] := by
  induction l with
  | nil => intro j hj; simp at hj
  | cons p l ih =>
    intro j hj h1 h2
    unfold fromL
    cases j with
    | zero => rw [List.find?_cons_of_pos (by simpa using h2)]; rfl
    | succ j =>
      have h0 := h1 0 (by omega)
      rw [List.find?_cons_of_neg (by simpa using h0)]
      exact ih (by simpa using hj) (fun i hi => by have := h1 (i + 1) (by omega); simpa using this) (by simpa using h2)
theorem fromL_none {l : Kv α} {b : Int} (h : ∀ (i : Nat) (hi : i < l.length), ¬ b ≤ (l[i].1 : Int)) : fromL l b = none := List.find?_eq_none.2 fun p hp => by
  obtain ⟨i, hi, rfl⟩ := List.mem_iff_getElem.1 hp
  simpa using h i hi
/-- The first one of a byte, where a table is gone through. -/
theorem fromL_tab : ∀ {l : Kv α} (h : KS l) {b : Int} {j : Nat} {x : α}, b ≤ (j : Int) → lk l j = some x → (∀ k : Nat, k < j → b ≤ (k : Int) → lk l k = none) → fromL l b = some (j, x)
  | [], h, b, j, x, _, hx, _ => by cases hx
  | p :: l, h, b, j, x, hb, hx, hn => by
    unfold fromL
    by_cases hp : b ≤ (p.1 : Int)
    · rw [List.find?_cons_of_pos (by simpa using hp)]
      by_cases e : p.1 = j
      · unfold lk at hx
        rw [if_pos e] at hx
        obtain rfl : p.2 = x := by simpa using hx
        subst e; rfl
      · rcases Nat.lt_or_gt_of_ne e with hlt | hgt
        · have := hn p.1 hlt hp
          simp [lk] at this
        · unfold lk at hx
          rw [if_neg e, lk_after h (by omega)] at hx
          cases hx
    · rw [List.find?_cons_of_neg (by simpa using hp)]
      have e : p.1 ≠ j := by omega
      refine fromL_tab h.tail hb (by simpa [lk, e] using hx) fun k hk hbk => ?_
      have := hn k hk hbk
      unfold lk at this
      split at this
      · cases this
      · exact this
theorem fromL_tab_none {l : Kv α} (h : KS l) {b : Int} (hn : ∀ k : Nat, k < 256 → b ≤ (k : Int) → lk l k = none) : fromL l b = none := fromL_none fun i hi hb => by
  have h1 := hn l[i].1 (h.lt _ (List.getElem_mem hi)) hb
  rw [lk_at h hi] at h1; cases h1
/-- One behind the other. -/
theorem fromL_next {l : Kv α} (h : KS l) {i : Nat} (hi : i < l.length) : fromL l ((l[i].1 : Int) + 1) = l[i + 1]? := by
  rcases Nat.lt_or_ge (i + 1) l.length with h2 | h2
  · rw [List.getElem?_eq_getElem h2]
    refine fromL_at h2 (fun j hj => ?_) ?_
    · rcases Nat.lt_or_ge j i with h3 | h3
      · have := h.at h3 hi; omega
      · obtain rfl : j = i := by omega
        omega
    · have := h.at (i := i) (j := i + 1) (by omega) h2; omega
  · rw [List.getElem?_eq_none h2]
    refine fromL_none fun j hj => ?_
    rcases Nat.lt_or_ge j i with h3 | h3
    · have := h.at h3 hi; omega
    · obtain rfl : j = i := by omega
      omega
theorem fromL_zero (l : Kv α) : fromL l 0 = l[0]? := by
  cases l with
  | nil => rfl
  | cons p l => exact List.find?_cons_of_pos (by simp)
theorem KS.ge {l : Kv α} (h : KS l) : ∀ {i : Nat} (hi : i < l.length), i ≤ l[i].1
  | 0, _ => Nat.zero_le _
  | i + 1, hi => by have h1 := h.ge (i := i) (by omega); have h2 := h.at (i := i) (j := i + 1) (by omega) hi; omega
theorem KS.len {l : Kv α} (h : KS l) : l.length ≤ 256 := by
  rcases Nat.eq_zero_or_pos l.length with h0 | h0
  · omega
  · have h1 := h.ge (i := l.length - 1) (by omega)
    have h2 := h.lt _ (List.getElem_mem (show l.length - 1 < l.length by omega))
    omega
theorem KS.room [Inhabited α] {l : Kv α} (h : KS l) {b : Nat} (hb : b < 256) (hk : hasK l b = false) : l.length < 256 := by
  have h1 := (h.set hb default).len
  rw [len_set h, hk] at h1
  simp at h1; omega
/-- What comes behind all is put at the end. -/
theorem setL_end : ∀ {l : Kv α} {b : Nat} (x : α), (∀ p ∈ l, p.1 < b) → setL l b x = l ++ [(b, x)]
  | [], b, x, _ => rfl
  | p :: l, b, x, h => by
    simp [setL, h p List.mem_cons_self, setL_end x fun q hq => h q (List.mem_cons_of_mem _ hq)]
theorem setL_take {l : Kv α} (h : KS l) {i : Nat} (hi : i < l.length) : setL (l.take i) l[i].1 l[i].2 = l.take (i + 1) := by
  rw [setL_end _ (fun p hp => ?_), List.take_succ_eq_append_getElem hi]
  obtain ⟨j, hj, rfl⟩ := List.mem_iff_getElem.1 hp
  rw [List.length_take] at hj
  rw [List.getElem_take]
  exact h.at (by omega) hi
theorem KS.take {l : Kv α} (h : KS l) (i : Nat) : KS (l.take i) := ⟨h.srt.sublist (List.take_sublist _ _), fun p hp => h.lt p (List.mem_of_mem_take hp)⟩
theorem hasK_take {l : Kv α} (h : KS l) {i : Nat} (hi : i < l.length) : hasK (l.take i) l[i].1 = false := by
  cases hk : hasK (l.take i) l[i].1 with
  | false => rfl
  | true =>
    obtain ⟨h1, h2, _⟩ := hasK_at (h.take i) hk
    rw [List.length_take] at h1
    rw [List.getElem_take] at h2
    have := h.at (i := posK (l.take i) l[i].1) (j := i) (by omega) hi
    omega

/-- The kinds. -/
def nextK (k : Nat) : Nat := if k = 4 then 16 else if k = 16 then 48 else 256
def growK (k n : Nat) : Nat := if n = k then nextK k else k
def shrinkK (k n : Nat) : Nat := if k = 16 ∧ n ≤ 3 then 4 else if k = 48 ∧ n ≤ 12 then 16 else if k = 256 ∧ n ≤ 36 then 48 else k
def setK (k : Nat) (l : Kv α) (b : Nat) : Nat := if hasK l b then k else growK k l.length
def dropK (k : Nat) (l : Kv α) (b : Nat) : Nat := if hasK l b then shrinkK k (l.length - 1) else k
structure NodeOK (k : Nat) (l : Kv α) : Prop where
  kind : k = 4 ∨ k = 16 ∨ k = 48 ∨ k = 256
  le : l.length ≤ k
  ks : KS l
theorem NodeOK.new : NodeOK 4 ([] : Kv α) := ⟨.inl rfl, by simp, .nil⟩
theorem NodeOK.set [Inhabited α] {k : Nat} {l : Kv α} (h : NodeOK k l) {b : Nat} (hb : b < 256) (x : α) : NodeOK (setK k l b) (setL l b x) := by
  have hl := len_set h.ks (b := b) x
  have h1 := h.le
  unfold setK
  cases hk : hasK l b with
  | true => rw [hk] at hl; exact ⟨h.kind, by simpa [hl] using h1, h.ks.set hb x⟩
  | false =>
    have hr := h.ks.room hb hk
    rw [hk] at hl
    simp only [Bool.false_eq_true, if_false] at hl ⊢
    have key : (growK k l.length = 4 ∨ growK k l.length = 16 ∨ growK k l.length = 48 ∨ growK k l.length = 256) ∧ l.length + 1 ≤ growK k l.length := by
      unfold growK nextK
      rcases h.kind with rfl | rfl | rfl | rfl <;> (split <;> simp <;> omega)
    exact ⟨key.1, by rw [hl]; exact key.2, h.ks.set hb x⟩
theorem NodeOK.drop {k : Nat} {l : Kv α} (h : NodeOK k l) (b : Nat) : NodeOK (dropK k l b) (delL l b) := by
  have hl := len_del h.ks (b := b)
  have h1 := h.le
  unfold dropK
  cases hk : hasK l b with
  | false => rw [hk] at hl; exact ⟨h.kind, by simpa [hl] using h1, h.ks.del⟩
  | true =>
    rw [hk] at hl
    simp only [if_true] at hl ⊢
    have key : (shrinkK k (l.length - 1) = 4 ∨ shrinkK k (l.length - 1) = 16 ∨ shrinkK k (l.length - 1) = 48 ∨ shrinkK k (l.length - 1) = 256) ∧ l.length - 1 ≤ shrinkK k (l.length - 1) := by
      unfold shrinkK
      rcases h.kind with rfl | rfl | rfl | rfl <;> simp <;> (try split) <;> omega
    exact ⟨key.1, by rw [hl]; exact key.2, h.ks.del⟩
theorem delL_not {l : Kv α} {b : Nat} (hk : hasK l b = false) : delL l b = l := by
  induction l with
  | nil => rfl
  | cons p l ih =>
    have e : p.1 ≠ b := by have := hasK_not hk 0 (by simp); simpa using this
    have hk2 : hasK l b = false := by simpa [hasK, lk, e] using hk
    simp [delL, e, ih hk2]
end
end Go.Proofs.Ytinbibeapooghaa.LF
