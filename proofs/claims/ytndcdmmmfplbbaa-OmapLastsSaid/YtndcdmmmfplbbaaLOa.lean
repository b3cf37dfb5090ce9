/- Sorted pairs: plain. What is done to them; what the document's list of pairs in no row becomes. -/
import Derived.Test.YtndcdmmmfplbbaaLOd
import Derived.Test.YtndcdmmmfplbbaaLKo
import Derived.Test.YtndcdmmmfplbbaaLRw
set_option linter.unusedVariables false
set_option linter.unusedSimpArgs false
namespace Go.Proofs.Ytndcdmmmfplbbaa.LF
open Go.RowKit
set_option linter.unusedVariables false

def Srt (l : List Pr) : Prop := l.Pairwise fun p q => ltS p.key q.key = true

def posP (l : List Pr) (k : ByteArray) : Nat := (l.takeWhile fun p => ltS p.key k).length
def hasP (l : List Pr) (k : ByteArray) : Bool := match l[posP l k]? with
  | some p => decide (p.key = k)
  | none => false
def getP (l : List Pr) (k : ByteArray) : Option ByteArray := match l[posP l k]? with
  | some p => if p.key = k then some p.val else none
  | none => none
def setP (l : List Pr) (k v : ByteArray) : List Pr := if hasP l k then l.set (posP l k) ⟨k, v⟩ else insL l (posP l k) ⟨k, v⟩
def dropP (l : List Pr) (k : ByteArray) : List Pr := if hasP l k then delL' l (posP l k) else l

/-- A sorted list, cut at a key. -/
structure Cut (l : List Pr) (k : ByteArray) (L : List Pr) (o : Option Pr) (R : List Pr) : Prop where
  eq : l = L ++ o.toList ++ R
  lo : ∀ p ∈ L, ltS p.key k = true
  mid : ∀ p, o = some p → p.key = k
  hi : ∀ p ∈ R, ltS k p.key = true

theorem cut_of {l : List Pr} (h : Srt l) (k : ByteArray) : ∃ L o R, Cut l k L o R := by
  induction l with
  | nil => exact ⟨[], none, [], rfl, by simp, by simp, by simp⟩
  | cons p l ih =>
    rw [Srt, List.pairwise_cons] at h
    obtain ⟨h1, h2⟩ := h
    by_cases hlt : ltS p.key k = true
    · obtain ⟨L, o, R, c⟩ := ih h2
      refine ⟨p :: L, o, R, by rw [c.eq]; simp, fun q hq => ?_, c.mid, c.hi⟩
      rcases List.mem_cons.1 hq with rfl | hq
      · exact hlt
      · exact c.lo q hq
    · have hlt : ltS p.key k = false := by simpa using hlt
      by_cases hgt : ltS k p.key = true
      · refine ⟨[], none, p :: l, rfl, by simp, by simp, fun q hq => ?_⟩
        rcases List.mem_cons.1 hq with rfl | hq
        · exact hgt
        · exact ltS_trans hgt (h1 q hq)
      · have e := ltS_total hlt (by simpa using hgt)
        refine ⟨[], some p, l, rfl, by simp, fun q hq => by cases hq; exact e, fun q hq => ?_⟩
        rw [← e]; exact h1 q hq

section
variable {l L R : List Pr} {o : Option Pr} {k : ByteArray}
theorem Cut.pos (c : Cut l k L o R) : posP l k = L.length := by
  have h : l.takeWhile (fun p => ltS p.key k) = L := by
    rw [c.eq, List.append_assoc, List.takeWhile_append_of_pos (by simpa using c.lo)]
    have : (o.toList ++ R).takeWhile (fun p => ltS p.key k) = [] := by
      cases o with
      | some p => simp [c.mid p rfl, ltS_irrefl]
      | none =>
        cases hR : R with
        | nil => simp
        | cons q R' =>
          have := c.hi q (by rw [hR]; simp)
          simp [ltS_asymm this]
    rw [this, List.append_nil]
  rw [posP, h]
theorem Cut.get? (c : Cut l k L o R) : l[posP l k]? = (o.toList ++ R)[0]? := by
  rw [c.pos]
  conv => lhs; rw [c.eq, List.append_assoc]
  rw [List.getElem?_append_right (Nat.le_refl _), Nat.sub_self]
theorem Cut.hasO (c : Cut l k L o R) : hasP l k = o.isSome := by
  rw [hasP, c.get?]
  cases o with
  | some p => simp [c.mid p rfl]
  | none =>
    cases hR : R with
    | nil => simp
    | cons q R' =>
      have := c.hi q (by rw [hR]; simp)
      have hne : q.key ≠ k := fun e => by rw [e, ltS_irrefl] at this; cases this
      simp [hne]
theorem Cut.getO (c : Cut l k L o R) : getP l k = o.map (·.val) := by
  rw [getP, c.get?]
  cases o with
  | some p => simp [c.mid p rfl]
  | none =>
    cases hR : R with
    | nil => simp
    | cons q R' =>
      have := c.hi q (by rw [hR]; simp)
      have hne : q.key ≠ k := fun e => by rw [e, ltS_irrefl] at this; cases this
      simp [hne]
theorem Cut.setO (c : Cut l k L o R) (v : ByteArray) : setP l k v = L ++ ⟨k, v⟩ :: R := by
  rw [setP, c.hasO, c.pos]
  cases o with
  | some p =>
    simp only [Option.isSome_some, if_true]
    rw [c.eq]
    simp
  | none =>
    simp only [Option.isSome_none, Bool.false_eq_true, if_false]
    rw [insL, c.eq]
    simp
theorem Cut.dropO (c : Cut l k L o R) : dropP l k = L ++ R := by
  rw [dropP, c.hasO, c.pos]
  cases o with
  | some p =>
    simp only [Option.isSome_some, if_true]
    rw [delL', c.eq]
    simp
  | none =>
    simp only [Option.isSome_none, Bool.false_eq_true, if_false]
    rw [c.eq]; simp
theorem Cut.ne (c : Cut l k L o R) : ∀ p, p ∈ L ++ R → p.key ≠ k := fun p hp e => by
  rcases List.mem_append.1 hp with h | h
  · have := c.lo p h; rw [e, ltS_irrefl] at this; cases this
  · have := c.hi p h; rw [e, ltS_irrefl] at this; cases this
theorem Cut.mem (c : Cut l k L o R) (p : Pr) : p ∈ L ++ R ↔ p ∈ l ∧ p.key ≠ k := by
  constructor
  · intro h
    refine ⟨?_, c.ne p h⟩
    rw [c.eq]
    rcases List.mem_append.1 h with h | h <;> simp [h]
  · rintro ⟨h, hne⟩
    rw [c.eq, List.mem_append, List.mem_append] at h
    rcases h with (h | h) | h
    · exact List.mem_append_left _ h
    · rw [Option.mem_toList] at h
      exact absurd (c.mid p h) hne
    · exact List.mem_append_right _ h
theorem Cut.srt (c : Cut l k L o R) (h : Srt l) (v : ByteArray) : Srt (L ++ ⟨k, v⟩ :: R) ∧ Srt (L ++ R) := by
  have h' := h
  rw [c.eq, Srt, List.append_assoc, List.pairwise_append] at h'
  obtain ⟨h1, h2, h3⟩ := h'
  have h4 := (List.pairwise_append.1 h2).2.1
  constructor
  · rw [Srt, List.pairwise_append]
    refine ⟨h1, List.pairwise_cons.2 ⟨fun q hq => c.hi q hq, h4⟩, fun p hp q hq => ?_⟩
    rcases List.mem_cons.1 hq with rfl | hq
    · exact c.lo p hp
    · exact ltS_trans (c.lo p hp) (c.hi q hq)
  · rw [Srt, List.pairwise_append]
    exact ⟨h1, h4, fun p hp q hq => ltS_trans (c.lo p hp) (c.hi q hq)⟩
end

theorem posP_le (l : List Pr) (k : ByteArray) : posP l k ≤ l.length := (List.takeWhile_prefix _).length_le
theorem hasP_lt {l : List Pr} {k : ByteArray} (h : hasP l k = true) : ∃ hl : posP l k < l.length, l[posP l k].key = k := by
  unfold hasP at h
  split at h
  · rename_i p hp
    obtain ⟨hl, e⟩ := List.getElem?_eq_some_iff.1 hp
    exact ⟨hl, by rw [e]; exact of_decide_eq_true h⟩
  · cases h
theorem getP_has (l : List Pr) (k : ByteArray) : hasP l k = (getP l k).isSome := by
  unfold hasP getP
  split
  · rename_i p hp
    by_cases h : p.key = k <;> simp [h]
  · rfl
theorem getP_yes {l : List Pr} {k : ByteArray} (h : hasP l k = true) : getP l k = some (l[posP l k]'(hasP_lt h).1).val := by
  obtain ⟨hl, e⟩ := hasP_lt h
  unfold getP
  rw [List.getElem?_eq_getElem hl]
  simp [e]
theorem getP_no {l : List Pr} {k : ByteArray} (h : hasP l k = false) : getP l k = none := by
  rw [getP_has] at h
  cases hg : getP l k with
  | none => rfl
  | some v => rw [hg] at h; cases h

theorem Srt.nil : Srt [] := List.Pairwise.nil
theorem Srt.set {l : List Pr} (h : Srt l) (k v : ByteArray) : Srt (setP l k v) := by
  obtain ⟨L, o, R, c⟩ := cut_of h k
  rw [c.setO v]; exact (c.srt h v).1
theorem Srt.drop {l : List Pr} (h : Srt l) (k : ByteArray) : Srt (dropP l k) := by
  obtain ⟨L, o, R, c⟩ := cut_of h k
  rw [c.dropO]; exact (c.srt h noBytes).2
theorem mem_setP {l : List Pr} (h : Srt l) (k v : ByteArray) (p : Pr) : p ∈ setP l k v ↔ p = ⟨k, v⟩ ∨ (p ∈ l ∧ p.key ≠ k) := by
  obtain ⟨L, o, R, c⟩ := cut_of h k
  rw [c.setO v, ← c.mem]
  simp only [List.mem_append, List.mem_cons]
  constructor
  · rintro (h | h | h)
    · exact .inr (.inl h)
    · exact .inl h
    · exact .inr (.inr h)
  · rintro (h | h | h)
    · exact .inr (.inl h)
    · exact .inl h
    · exact .inr (.inr h)
theorem mem_dropP {l : List Pr} (h : Srt l) (k : ByteArray) (p : Pr) : p ∈ dropP l k ↔ p ∈ l ∧ p.key ≠ k := by
  obtain ⟨L, o, R, c⟩ := cut_of h k
  rw [c.dropO, ← c.mem]
theorem Srt.uniq {l : List Pr} (h : Srt l) {p q : Pr} (hp : p ∈ l) (hq : q ∈ l) (e : p.key = q.key) : p = q := by
  induction l with
  | nil => cases hp
  | cons x l ih =>
    rw [Srt, List.pairwise_cons] at h
    rcases List.mem_cons.1 hp with h1 | h1 <;> rcases List.mem_cons.1 hq with h2 | h2
    · rw [h1, h2]
    · have := h.1 q h2; rw [← h1, e, ltS_irrefl] at this; cases this
    · have := h.1 p h1; rw [← h2, e, ltS_irrefl] at this; cases this
    · exact ih h.2 h1 h2
theorem Srt.nodup {l : List Pr} (h : Srt l) : l.Nodup := by
  refine List.Pairwise.imp (fun {p q} hpq e => ?_) h
  rw [e, ltS_irrefl] at hpq; cases hpq
theorem mem_getP {l : List Pr} (h : Srt l) (k v : ByteArray) : getP l k = some v ↔ (⟨k, v⟩ : Pr) ∈ l := by
  obtain ⟨L, o, R, c⟩ := cut_of h k
  rw [c.getO]
  constructor
  · intro e
    cases o with
    | none => cases e
    | some p =>
      have e1 : p.val = v := by simpa using e
      have e2 := c.mid p rfl
      rw [c.eq]
      have : p = ⟨k, v⟩ := by cases p; simp_all
      simp [this]
  · intro hm
    rw [c.eq, List.mem_append, List.mem_append] at hm
    rcases hm with (hm | hm) | hm
    · exact absurd rfl (c.ne _ (List.mem_append_left _ hm))
    · rw [Option.mem_toList] at hm
      rw [hm]; rfl
    · exact absurd rfl (c.ne _ (List.mem_append_right _ hm))
theorem getP_none {l : List Pr} (h : Srt l) (k : ByteArray) : getP l k = none ↔ ∀ p ∈ l, p.key ≠ k := by
  constructor
  · intro e p hp hk
    have : getP l k = some p.val := (mem_getP h k p.val).2 (by rw [← hk]; exact hp)
    rw [e] at this; cases this
  · intro hn
    cases e : getP l k with
    | none => rfl
    | some v => exact absurd rfl (hn _ ((mem_getP h k v).1 e))
theorem getP_set {l : List Pr} (h : Srt l) (k v k' : ByteArray) : getP (setP l k v) k' = if k' = k then some v else getP l k' := by
  by_cases e : k' = k
  · rw [if_pos e, mem_getP (h.set k v), mem_setP h]
    exact .inl (by rw [e])
  · rw [if_neg e]
    apply Option.ext
    intro u
    rw [mem_getP (h.set k v), mem_getP h, mem_setP h]
    constructor
    · rintro (h1 | h1)
      · exact absurd (congrArg Pr.key h1) e
      · exact h1.1
    · exact fun h1 => .inr ⟨h1, e⟩
theorem getP_drop {l : List Pr} (h : Srt l) (k k' : ByteArray) : getP (dropP l k) k' = if k' = k then none else getP l k' := by
  by_cases e : k' = k
  · rw [if_pos e, getP_none (h.drop k)]
    intro p hp
    rw [e]; exact ((mem_dropP h k p).1 hp).2
  · rw [if_neg e]
    apply Option.ext
    intro u
    rw [mem_getP (h.drop k), mem_getP h, mem_dropP h]
    exact ⟨fun h1 => h1.1, fun h1 => ⟨h1, e⟩⟩

/-- Sorted lists of the same pairs are the same. -/
theorem Srt.ext {l m : List Pr} (hl : Srt l) (hm : Srt m) (h : ∀ p, p ∈ l ↔ p ∈ m) : l = m := by
  have hp : l.Perm m := (List.perm_ext_iff_of_nodup hl.nodup hm.nodup).2 h
  refine List.Perm.eq_of_pairwise (le := fun (p q : Pr) => ltS p.key q.key = true) (fun p q _ _ h1 h2 => ?_) hl hm hp
  have := ltS_trans h1 h2
  rw [ltS_irrefl] at this; cases this
theorem Srt.ext_get {l m : List Pr} (hl : Srt l) (hm : Srt m) (h : ∀ k, getP l k = getP m k) : l = m := by
  refine hl.ext hm fun p => ?_
  have := h p.key
  constructor
  · intro hp
    exact (mem_getP hm p.key p.val).1 (this ▸ (mem_getP hl p.key p.val).2 hp)
  · intro hp
    exact (mem_getP hl p.key p.val).1 (this.symm ▸ (mem_getP hm p.key p.val).2 hp)
theorem setP_length (l : List Pr) (k v : ByteArray) : (setP l k v).length ≤ l.length + 1 := by
  unfold setP
  split
  · rw [List.length_set]; omega
  · rw [insL_length l (posP_le l k)]; exact Nat.le_refl _
theorem dropP_length (l : List Pr) (k : ByteArray) : (dropP l k).length ≤ l.length := by
  unfold dropP
  split
  · rename_i h
    rw [delL'_length l (hasP_lt h).1]; omega
  · exact Nat.le_refl _

/-- What a Next tells. -/
def nextP (l : List Pr) (k : ByteArray) (after : Bool) : Option Pr := l[if hasP l k && after then posP l k + 1 else posP l k]?
theorem Cut.nextO {l L R : List Pr} {o : Option Pr} {k : ByteArray} (c : Cut l k L o R) (after : Bool) : nextP l k after = if after then R[0]? else (o.toList ++ R)[0]? := by
  rw [nextP, c.hasO, c.pos]
  conv => lhs; rw [c.eq, List.append_assoc]
  cases o with
  | none =>
    have : (L ++ R)[L.length]? = R[0]? := by rw [List.getElem?_append_right (Nat.le_refl _), Nat.sub_self]
    cases after <;> simpa using this
  | some p =>
    cases after with
    | true =>
      have : (L ++ p :: R)[L.length + 1]? = R[0]? := by rw [List.getElem?_append_right (by omega), show L.length + 1 - L.length = 1 by omega]; rfl
      simpa using this
    | false => simp
end Go.Proofs.Ytndcdmmmfplbbaa.LF
