/- A leaf as a sorted list of pairs: plain. -/
import Derived.Test.YtjcpcgneghanfaaLBk
set_option linter.unusedVariables false
set_option linter.unusedSimpArgs false
namespace Go.Proofs.Ytjcpcgneghanfaa.LF
open Go.RowKit
set_option linter.unusedVariables false

structure Pr where
  key : ByteArray
  val : ByteArray
deriving DecidableEq
def Srt (l : List Pr) : Prop := l.Pairwise fun p q => ltS p.key q.key = true

def posP (l : List Pr) (k : ByteArray) : Nat := (l.takeWhile fun p => ltS p.key k).length
def hasP (l : List Pr) (k : ByteArray) : Bool := match l[posP l k]? with
  | some p => decide (p.key = k)
  | none => false
def getP (l : List Pr) (k : ByteArray) : Option ByteArray := match l[posP l k]? with
  | some p => if p.key = k then some p.val else none
  | none => none
def setP (l : List Pr) (k v : ByteArray) : List Pr := if hasP l k then l.set (posP l k) ⟨k, v⟩ else insL l (posP l k) ⟨k, v⟩
def dropP (l : List Pr) (k : ByteArray) : List Pr := if hasP l k then delL' l (posP l k) else l

/-- A sorted list, cut at a key. -/
structure Cut (l : List Pr) (k : ByteArray) (L : List Pr) (o : Option Pr) (R : List Pr) : Prop where
  eq : l = L ++ o.toList ++ R
  lo : ∀ p ∈ L, ltS p.key k = true
  mid : ∀ p, o = some p → p.key = k
  hi : ∀ p ∈ R, ltS k p.key = true

theorem cut_of {l : List Pr} (h : Srt l) (k : ByteArray) : ∃ L o R, Cut l k L o R := by
  induction l with
  | nil => exact ⟨[], none, [], rfl, by simp, by simp, by simp⟩
  | cons p l ih =>
    rw [Srt, List.pairwise_cons] at h
    obtain ⟨h1, h2⟩ := h
    by_cases hlt : ltS p.key k = true
    · obtain ⟨L, o, R, c⟩ := ih h2
      refine ⟨p :: L, o, R, by rw [c.eq]; simp, fun q hq => ?_, c.mid, c.hi⟩
      rcases List.mem_cons.1 hq with rfl | hq
      · exact hlt
      · exact c.lo q hq
    · have hlt : ltS p.key k = false := by simpa using hlt
      by_cases hgt : ltS k p.key = true
      · refine ⟨[], none, p :: l, rfl, by simp, by simp, fun q hq => ?_⟩
        rcases List.mem_cons.1 hq with rfl | hq
        · exact hgt
        · exact ltS_trans hgt (h1 q hq)
      · have e := ltS_total hlt (by simpa using hgt)
        refine ⟨[], some p, l, rfl, by simp, fun q hq => by cases hq; exact e, fun q hq => ?_⟩
        rw [← e]; exact h1 q hq

section
variable {l L R : List Pr} {o : Option Pr} {k : ByteArray}
theorem Cut.pos (c : Cut l k L o R) : posP l k = L.length := by
  have h : l.takeWhile (fun p => ltS p.key k) = L := by
    rw [c.eq, List.append_assoc, List.takeWhile_append_of_pos (by simpa using c.lo)]
    have : (o.toList ++ R).takeWhile (fun p => ltS p.key k) = [] := by
      cases o with
      | some p => simp [c.mid p rfl, ltS_irrefl]
      | none =>
        cases hR : R with
        | nil => simp
        | cons q R' =>
          have := c.hi q (by rw [hR]; simp)
          simp [ltS_asymm this]
    rw [this, List.append_nil]
  rw [posP, h]
theorem Cut.get? (c : Cut l k L o R) : l[posP l k]? = (o.toList ++ R)[0]? := by
  rw [c.pos]
  conv => lhs; rw [c.eq, List.append_assoc]
  rw [List.getElem?_append_right (Nat.le_refl _), Nat.sub_self]
theorem Cut.hasO (c : Cut l k L o R) : hasP l k = o.isSome := by
  rw [hasP, c.get?]
  cases o with
  | some p => simp [c.mid p rfl]
  | none =>
    cases hR : R with
    | nil => simp
    | cons q R' =>
      have := c.hi q (by rw [hR]; simp)
      have hne : q.key ≠ k := fun e => by rw [e, ltS_irrefl] at this; cases this
      simp [hne]
theorem Cut.getO (c : Cut l k L o R) : getP l k = o.map (·.val) := by
  rw [getP, c.get?]
  cases o with
  | some p => simp [c.mid p rfl]
  | none =>
    cases hR : R with
    | nil => simp
    | cons q R' =>
      have := c.hi q (by rw [hR]; simp)
      have hne : q.key ≠ k := fun e => by rw [e, ltS_irrefl] at this; cases this
      simp [hne]
theorem Cut.setO (c : Cut l k L o R) (v : ByteArray) : setP l k v = L ++ ⟨k, v⟩ :: R := by
  rw [setP, c.hasO, c.pos]
  cases o with
  | some p =>
    simp only [Option.isSome_some, if_true]
    rw [c.eq]
    simp
  | none =>
    simp only [Option.isSome_none, Bool.false_eq_true, if_false]
    rw [insL, c.eq]
    simp
theorem Cut.dropO (c : Cut l k L o R) : dropP l k = L ++ R := by
  rw [dropP, c.hasO, c.pos]
  cases o with
  | some p =>
    simp only [Option.isSome_some, if_true]
    rw [delL', c.eq]
    simp
  | none =>
    simp only [Option.isSome_none, Bool.false_eq_true, if_false]
    rw [c.eq]; simp
theorem Cut.ne (c : Cut l k L o R) : ∀ p, p ∈ L ++ R → p.key ≠ k := fun p hp e => by
  rcases List.mem_append.1 hp with h | h
  · have := c.lo p h; rw [e, ltS_irrefl] at this; cases this
  · have := c.hi p h; rw [e, ltS_irrefl] at this; cases this
theorem Cut.mem (c : Cut l k L o R) (p : Pr) : p ∈ L ++ R ↔ p ∈ l ∧ p.key ≠ k := by
  constructor
  · intro h
    refine ⟨?_, c.ne p h⟩
    rw [c.eq]
    rcases List.mem_append.1 h with h | h <;> simp [h]
  · rintro ⟨h, hne⟩
    rw [c.eq, List.mem_append, List.mem_append] at h
    rcases h with (h | h) | h
    · exact List.mem_append_left _ h
    · rw [Option.mem_toList] at h
      exact absurd (c.mid p h) hne
    · exact List.mem_append_right _ h
theorem Cut.srt (c : Cut l k L o R) (h : Srt l) (v : ByteArray) : Srt (L ++ ⟨k, v⟩ :: R) ∧ Srt (L ++ R) := by
  have h' := h
  rw [c.eq, Srt, List.append_assoc, List.pairwise_append] at h'
  obtain ⟨h1, h2, h3⟩ := h'
  have h4 := (List.pairwise_append.1 h2).2.1
  constructor
  · rw [Srt, List.pairwise_append]
    refine ⟨h1, List.pairwise_cons.2 ⟨fun q hq => c.hi q hq, h4⟩, fun p hp q hq => ?_⟩
    rcases List.mem_cons.1 hq with rfl | hq
    · exact c.lo p hp
    · exact ltS_trans (c.lo p hp) (c.hi q hq)
  · rw [Srt, List.pairwise_append]
    exact ⟨h1, h4, fun p hp q hq => ltS_trans (c.lo p hp) (c.hi q hq)⟩
end

theorem posP_le (l : List Pr) (k : ByteArray) : posP l k ≤ l.length := (List.takeWhile_prefix _).length_le
theorem hasP_lt {l : List Pr} {k : ByteArray} (h : hasP l k = true) : ∃ hl : posP l k < l.length, l[posP l k].key = k := by
  unfold hasP at h
  split at h
  · rename_i p hp
    obtain ⟨hl, e⟩ := List.getElem?_eq_some_iff.1 hp
    exact ⟨hl, by rw [e]; exact of_decide_eq_true h⟩
  · cases h
theorem getP_has (l : List Pr) (k : ByteArray) : hasP l k = (getP l k).isSome := by
  unfold hasP getP
  split
  · rename_i p hp
    by_cases h : p.key = k <;> simp [h]
  · rfl
theorem getP_yes {l : List Pr} {k : ByteArray} (h : hasP l k = true) : getP l k = some (l[posP l k]'(hasP_lt h).1).val := by
  obtain ⟨hl, e⟩ := hasP_lt h
  unfold getP
  rw [List.getElem?_eq_getElem hl]
  simp [e]
theorem getP_no {l : List Pr} {k : ByteArray} (h : hasP l k = false) : getP l k = none := by
  rw [getP_has] at h
  cases hg : getP l k with
  | none => rfl
  | some v => rw [hg] at h; cases h

theorem Srt.nil : Srt [] := List.Pairwise.nil
theorem Srt.set {l : List Pr} (h : Srt l) (k v : ByteArray) : Srt (setP l k v) := by
  obtain ⟨L, o, R, c⟩ := cut_of h k
  rw [c.setO v]; exact (c.srt h v).1
theorem Srt.drop {l : List Pr} (h : Srt l) (k : ByteArray) : Srt (dropP l k) := by
  obtain ⟨L, o, R, c⟩ := cut_of h k
  rw [c.dropO]; exact (c.srt h noBytes).2
theorem mem_setP {l : List Pr} (h : Srt l) (k v : ByteArray) (p : Pr) : p ∈ setP l k v ↔ p = ⟨k, v⟩ ∨ (p ∈ l ∧ p.key ≠ k) := by
  obtain ⟨L, o, R, c⟩ := cut_of h k
  rw [c.setO v, ← c.mem]
  simp only [List.mem_append, List.mem_cons]
  constructor
  · rintro (h | h | h)
    · exact .inr (.inl h)
    · exact .inl h
    · exact .inr (.inr h)
  · rintro (h | h | h)
    · exact .inr (.inl h)
    · exact .inl h
    · exact .inr (.inr h)
theorem mem_dropP {l : List Pr} (h : Srt l) (k : ByteArray) (p : Pr) : p ∈ dropP l k ↔ p ∈ l ∧ p.key ≠ k := by
  obtain ⟨L, o, R, c⟩ := cut_of h k
  rw [c.dropO, ← c.mem]
theorem Srt.uniq {l : List Pr} (h : Srt l) {p q : Pr} (hp : p ∈ l) (hq : q ∈ l) (e : p.key = q.key) : p = q := by
  induction l with
  | nil => cases hp
  | cons x l ih =>
    rw [Srt, List.pairwise_cons] at h
    rcases List.mem_cons.1 hp with h1 | h1 <;> rcases List.mem_cons.1 hq with h2 | h2
    · rw [h1, h2]
    · have := h.1 q h2; rw [← h1, e, ltS_irrefl] at this; cases this
    · have := h.1 p h1; rw [← h2, e, ltS_irrefl] at this; cases this
    · exact ih h.2 h1 h2
theorem Srt.nodup {l : List Pr} (h : Srt l) : l.Nodup := by
  refine List.Pairwise.imp (fun {p q} hpq e => ?_) h
  rw [e, ltS_irrefl] at hpq; cases hpq
theorem mem_getP {l : List Pr} (h : Srt l) (k v : ByteArray) : getP l k = some v ↔ (⟨k, v⟩ : Pr) ∈ l := by
  obtain ⟨L, o, R, c⟩ := cut_of h k
  rw [c.getO]
  constructor
  · intro e
    cases o with
    | none => cases e
    | some p =>
      have e1 : p.val = v := by simpa using e
      have e2 := c.mid p rfl
      rw [c.eq]
      have : p = ⟨k, v⟩ := by cases p; simp_all
      simp [this]
  · intro hm
    rw [c.eq, List.mem_append, List.mem_append] at hm
    rcases hm with (hm | hm) | hm
    · exact absurd rfl (c.ne _ (List.mem_append_left _ hm))
    · rw [Option.mem_toList] at hm
      rw [hm]; rfl
    · exact absurd rfl (c.ne _ (List.mem_append_right _ hm))
theorem getP_none {l : List Pr} (h : Srt l) (k : ByteArray) : getP l k = none ↔ ∀ p ∈ l, p.key ≠ k := by
  constructor
  · intro e p hp hk
    have : getP l k = some p.val := (mem_getP h k p.val).2 (by rw [← hk]; exact hp)
    rw [e] at this; cases this
  · intro hn
    cases e : getP l k with
    | none => rfl
    | some v => exact absurd rfl (hn _ ((mem_getP h k v).1 e))
theorem getP_set {l : List Pr} (h : Srt l) (k v k' : ByteArray) : getP (setP l k v) k' = if k' = k then some v else getP l k' := by
  by_cases e : k' = k
  · rw [if_pos e, mem_getP (h.set k v), mem_setP h]
    exact .inl (by rw [e])
  · rw [if_neg e]
    apply Option.ext
    intro u
    rw [mem_getP (h.set k v), mem_getP h, mem_setP h]
    constructor
    · rintro (h1 | h1)
      · exact absurd (congrArg Pr.key h1) e
      · exact h1.1
    · exact fun h1 => .inr ⟨h1, e⟩
theorem getP_drop {l : List Pr} (h : Srt l) (k k' : ByteArray) : getP (dropP l k) k' = if k' = k then none else getP l k' := by
  by_cases e : k' = k
  · rw [if_pos e, getP_none (h.drop k)]
    intro p hp
    rw [e]; exact ((mem_dropP h k p).1 hp).2
  · rw [if_neg e]
    apply Option.ext
    intro u
    rw [mem_getP (h.drop k), mem_getP h, mem_dropP h]
    exact ⟨fun h1 => h1.1, fun h1 => ⟨h1, e⟩⟩

/-- Sorted lists of the same pairs are the same. -/
theorem Srt.ext {l m : List Pr} (hl : Srt l) (hm : Srt m) (h : ∀ p, p ∈ l ↔ p ∈ m) : l = m := by
  have hp : l.Perm m := (List.perm_ext_iff_of_nodup hl.nodup hm.nodup).2 h
  refine List.Perm.eq_of_pairwise (le := fun (p q : Pr) => ltS p.key q.key = true) (fun p q _ _ h1 h2 => ?_) hl hm hp
  have := ltS_trans h1 h2
  rw [ltS_irrefl] at this; cases this
theorem Srt.ext_get {l m : List Pr} (hl : Srt l) (hm : Srt m) (h : ∀ k, getP l k = getP m k) : l = m := by
  refine hl.ext hm fun p => ?_
  have := h p.key
  constructor
  · intro hp
    exact (mem_getP hm p.key p.val).1 (this ▸ (mem_getP hl p.key p.val).2 hp)
  · intro hp
    exact (mem_getP hl p.key p.val).1 (this.symm ▸ (mem_getP hm p.key p.val).2 hp)

/-- A node with a list of pairs. -/
def ofP (n : NdV) (l : List Pr) : NdV := { n with keys := l.map Pr.key, vals := l.map Pr.val }
theorem ofP_ofP (n : NdV) (l m : List Pr) : ofP (ofP n l) m = ofP n m := rfl
/-- A right leaf, by its pairs. -/
structure Lf (n : NdV) (l : List Pr) : Prop where
  eq : n = ofP n l
  leaf : n.leaf = true
  kids : n.kids = []
  high : n.bounded = true ∨ n.high = noBytes
  srt : Srt l
  cov : ∀ p ∈ l, coversN n p.key = true
theorem Lf.keys {n : NdV} {l : List Pr} (h : Lf n l) : n.keys = l.map Pr.key := (congrArg NdV.keys h.eq).trans rfl
theorem Lf.vals {n : NdV} {l : List Pr} (h : Lf n l) : n.vals = l.map Pr.val := (congrArg NdV.vals h.eq).trans rfl
theorem srt_rises {l : List Pr} : risesL (l.map Pr.key) = true ↔ Srt l := by
  constructor
  · intro h
    rw [Srt, List.pairwise_iff_getElem]
    intro i j hi hj hij
    have := rises_lt h (i := i) (j := j) hij (by simpa using hj)
    simpa using this
  · intro h
    rw [risesL_iff]
    intro i hi
    have := List.pairwise_iff_getElem.1 h i (i + 1) (by simp at hi; omega) (by simp at hi; omega) (by omega)
    simpa using this
theorem Lf.right {n : NdV} {l : List Pr} (h : Lf n l) : rightN n = true := by
  rw [rightN_eq]
  have h1 : risesL n.keys = true := by rw [h.keys]; exact srt_rises.2 h.srt
  have h2 : n.keys.all (coversN n) = true := by
    rw [List.all_eq_true, h.keys]
    intro k hk
    obtain ⟨p, hp, rfl⟩ := List.mem_map.1 hk
    exact h.cov p hp
  have h3 : shapeN n = true := by
    unfold shapeN
    rw [if_pos h.leaf, h.keys, h.vals, h.kids]; simp
  have h4 : (!n.bounded && !decide (n.high = noBytes)) = false := by
    rcases h.high with e | e
    · rw [e]; rfl
    · rw [decide_eq_true e]; simp
  rw [h1, h2, h3, h4]; rfl
theorem Lf.of {n : NdV} (hr : rightN n = true) (hl : n.leaf = true) : ∃ l, Lf n l := by
  obtain ⟨hv, hk⟩ := rightN_leaf hr hl
  have hr2 := hr
  rw [rightN_eq] at hr2
  simp only [Bool.and_eq_true, Bool.not_eq_true', Bool.and_eq_false_iff, Bool.not_eq_false', decide_eq_true_eq] at hr2
  obtain ⟨⟨h1, h2⟩, h3, _⟩ := hr2
  have e1 : (List.zipWith Pr.mk n.keys n.vals).map Pr.key = n.keys := by
    apply List.ext_getElem (by simp; omega)
    intro i h1 h2; simp
  have e2 : (List.zipWith Pr.mk n.keys n.vals).map Pr.val = n.vals := by
    apply List.ext_getElem (by simp; omega)
    intro i h1 h2; simp
  refine ⟨List.zipWith Pr.mk n.keys n.vals, ?_, hl, List.length_eq_zero_iff.1 hk, ?_, ?_, ?_⟩
  · unfold ofP; rw [e1, e2]
  · rcases h3 with e | e
    · left; simpa using e
    · right; simpa using e
  · rw [← srt_rises, e1]; exact h1
  · intro p hp
    rw [List.all_eq_true] at h2
    exact h2 p.key (by rw [← e1]; exact List.mem_map_of_mem hp)
theorem Lf.with {n : NdV} {l m : List Pr} (h : Lf n l) (hs : Srt m) (hc : ∀ p ∈ m, coversN n p.key = true) : Lf (ofP n m) m := ⟨rfl, h.leaf, h.kids, h.high, hs, hc⟩
theorem pos_map (l : List Pr) (k : ByteArray) : cntK (l.map Pr.key) k = posP l k := by
  unfold cntK posP
  rw [List.takeWhile_map, List.length_map]; rfl
theorem has_map (l : List Pr) (k : ByteArray) : hasK (l.map Pr.key) k = hasP l k := by
  unfold hasK hasP
  rw [pos_map, List.getElem?_map]
  cases l[posP l k]? with
  | none => rfl
  | some p => simp
theorem map_insL (f : Pr → ByteArray) (l : List Pr) (i : Nat) (p : Pr) : (insL l i p).map f = insL (l.map f) i (f p) := by simp [insL, List.map_take, List.map_drop]
theorem map_delL' (f : Pr → ByteArray) (l : List Pr) (i : Nat) : (delL' l i).map f = delL' (l.map f) i := by simp [delL', List.map_take, List.map_drop]
theorem Lf.takes {n : NdV} {l : List Pr} (h : Lf n l) {k : ByteArray} (hc : coversN n k = true) : takesN n k = true := by
  unfold takesN; rw [h.leaf, h.right, hc]; rfl
theorem getD_val {l : List Pr} {i : Nat} (h : i < l.length) : (l.map Pr.val).getD i noBytes = l[i].val := by
  rw [List.getD_eq_getElem?_getD, List.getElem?_eq_getElem (by simpa using h)]; simp
theorem Lf.put {n : NdV} {l : List Pr} (h : Lf n l) {k : ByteArray} (hc : coversN n k = true) (v : ByteArray) : putN n k v = (ofP n (setP l k v), (getP l k).getD noBytes, (getP l k).isSome) := by
  have hk := h.keys
  have hv := h.vals
  unfold putN
  rw [if_pos (h.takes hc), hk, has_map]
  by_cases hh : hasP l k = true
  · obtain ⟨hlt, e⟩ := hasP_lt hh
    rw [if_pos hh, getP_yes hh, setP, if_pos hh, pos_map, hv, getD_val hlt]
    refine Prod.ext ?_ rfl
    show (⟨n.leaf, l.map Pr.key, (l.map Pr.val).set (posP l k) v, n.kids, n.high, n.bounded, n.next⟩ : NdV) = ofP n _
    unfold ofP
    rw [List.map_set, List.map_set]
    congr 1
    apply List.ext_getElem (by simp)
    intro i h1 h2
    rw [List.getElem_set]
    split
    · rename_i he; subst he; simp [e]
    · rfl
  · have hh : hasP l k = false := by simpa using hh
    rw [if_neg (by rw [hh]; decide), getP_no hh, setP, if_neg (by rw [hh]; decide), pos_map]
    refine Prod.ext ?_ rfl
    show n.ins _ _ _ = ofP n _
    unfold ofP NdV.ins
    rw [hk, hv, map_insL, map_insL]
theorem Lf.del {n : NdV} {l : List Pr} (h : Lf n l) {k : ByteArray} (hc : coversN n k = true) : delN n k = (ofP n (dropP l k), (getP l k).getD noBytes, (getP l k).isSome) := by
  have hk := h.keys
  have hv := h.vals
  unfold delN
  rw [h.takes hc, hk, has_map]
  by_cases hh : hasP l k = true
  · obtain ⟨hlt, e⟩ := hasP_lt hh
    rw [if_pos (by rw [hh]; rfl), getP_yes hh, dropP, if_pos hh, pos_map, hv, getD_val hlt]
    refine Prod.ext ?_ rfl
    show n.del _ = ofP n _
    unfold ofP NdV.del
    rw [hk, hv, map_delL', map_delL']
  · have hh : hasP l k = false := by simpa using hh
    rw [if_neg (by rw [hh]; decide), getP_no hh, dropP, if_neg (by rw [hh]; decide)]
    exact Prod.ext h.eq rfl
theorem Lf.value {n : NdV} {l : List Pr} (h : Lf n l) (k : ByteArray) : valueN n k = ((getP l k).getD noBytes, (getP l k).isSome) := by
  unfold valueN
  rw [h.keys, h.vals, has_map, pos_map]
  by_cases hh : hasP l k = true
  · obtain ⟨hlt, e⟩ := hasP_lt hh
    rw [if_pos hh, getP_yes hh, List.getElem?_eq_getElem (by simpa using hlt)]; simp
  · have hh : hasP l k = false := by simpa using hh
    rw [if_neg (by rw [hh]; decide), getP_no hh]; rfl
theorem Lf.set {n : NdV} {l : List Pr} (h : Lf n l) {k : ByteArray} (hc : coversN n k = true) (v : ByteArray) : Lf (ofP n (setP l k v)) (setP l k v) :=
  h.with (h.srt.set k v) fun p hp => by
    rcases (mem_setP h.srt k v p).1 hp with rfl | hp
    · exact hc
    · exact h.cov p hp.1
theorem Lf.drop {n : NdV} {l : List Pr} (h : Lf n l) (k : ByteArray) : Lf (ofP n (dropP l k)) (dropP l k) :=
  h.with (h.srt.drop k) fun p hp => h.cov p ((mem_dropP h.srt k p).1 hp).1
theorem set_set {l : List Pr} (h : Srt l) (k v : ByteArray) : setP (setP l k v) k v = setP l k v :=
  ((h.set k v).set k v).ext_get (h.set k v) fun q => by rw [getP_set (h.set k v)]; split <;> rename_i e <;> simp [getP_set h, e]
theorem drop_set {l : List Pr} (h : Srt l) (k v : ByteArray) : dropP (setP l k v) k = dropP l k :=
  ((h.set k v).drop k).ext_get (h.drop k) fun q => by
    rw [getP_drop (h.set k v), getP_drop h, getP_set h]
    split <;> rfl
theorem drop_no {l : List Pr} (h : Srt l) {k : ByteArray} (hn : getP l k = none) : dropP l k = l := by
  rw [dropP, if_neg (by rw [getP_has, hn]; decide)]
theorem set_comm {l : List Pr} (h : Srt l) {k k' : ByteArray} (hne : k ≠ k') (v v' : ByteArray) : setP (setP l k v) k' v' = setP (setP l k' v') k v :=
  ((h.set k v).set k' v').ext_get ((h.set k' v').set k v) fun q => by
    rw [getP_set (h.set k v), getP_set h, getP_set (h.set k' v'), getP_set h]
    by_cases e : q = k
    · subst e; rw [if_neg hne, if_pos rfl, if_pos rfl]
    · rw [if_neg e, if_neg e]
theorem setP_len (l : List Pr) (k v : ByteArray) : (setP l k v).length ≤ l.length + 1 := by
  unfold setP
  split
  · simp
  · rw [insL_length _ (posP_le _ _)]; exact Nat.le_refl _
theorem dropP_len (l : List Pr) (k : ByteArray) : (dropP l k).length ≤ l.length := by
  unfold dropP
  split
  · rename_i h
    obtain ⟨hl, _⟩ := hasP_lt h
    rw [delL'_length _ hl]; omega
  · exact Nat.le_refl _
theorem Lf.len {n : NdV} {l : List Pr} (h : Lf n l) : l.length = n.keys.length := by rw [h.keys, List.length_map]
theorem Lf.fit {n : NdV} {l : List Pr} (h : Lf n l) (hl : l.length ≤ 100000) : n.ok := ⟨by rw [h.keys]; simpa using hl, by rw [h.vals]; simpa using hl, by rw [h.kids]; decide⟩
end Go.Proofs.Ytjcpcgneghanfaa.LF
