/- The plain law of 'HistoryOrder': what stands in a right row. -/
import Derived.Test.YtmdfjojohfhcgaaLHm
set_option linter.unusedVariables false
set_option linter.unusedSimpArgs false
namespace Go.Proofs.Ytmdfjojohfhcgaa.LF
open Go.RowKit

def okS (f : Int → Kn) : List Ev → Prop
  | [] => True
  | e :: l => ∃ k, takesS (f e.id) e = some k ∧ okS (put1 f e.id k) l

theorem check_cases : ∀ (l : List Ev) (f : Int → Kn) (i : Nat), (checkS f l i = (-1, 0) ∧ okS f l) ∨ ∃ n, n < l.length ∧ checkS f l i = (((i + n : Nat) : Int), 31) ∧ okS f (l.take n) := by
  intro l
  induction l with
  | nil => intro f i; exact .inl ⟨rfl, trivial⟩
  | cons e l ih =>
    intro f i
    cases ht : takesS (f e.id) e with
    | none => exact .inr ⟨0, by simp, by simp only [checkS, ht]; rfl, trivial⟩
    | some k =>
      rcases ih (put1 f e.id k) (i + 1) with ⟨h1, h2⟩ | ⟨n, h1, h2, h3⟩
      · exact .inl ⟨by simp only [checkS, ht, h1], k, ht, h2⟩
      · refine .inr ⟨n + 1, by simp; omega, by simp only [checkS, ht, h2]; congr 2; omega, k, ht, h3⟩

theorem check_of_ok {l : List Ev} {f : Int → Kn} (h : okS f l) : ∀ i, checkS f l i = (-1, 0) := by
  induction l generalizing f with
  | nil => intro i; rfl
  | cons e l ih =>
    intro i
    obtain ⟨k, ht, h2⟩ := h
    simp only [checkS, ht]
    exact ih h2 _
theorem ok_take {l : List Ev} {f : Int → Kn} (h : okS f l) : ∀ n, okS f (l.take n) := by
  induction l generalizing f with
  | nil => intro n; simp; exact trivial
  | cons e l ih =>
    intro n
    cases n with
    | zero => exact trivial
    | succ n =>
      obtain ⟨k, ht, h2⟩ := h
      exact ⟨k, ht, ih h2 n⟩

theorem ok_fits : ∀ (l w : List Ev) (f : Int → Kn), Known w f → okS f l → ∀ (j : Nat) (h : j < l.length), fitsS (w ++ l.take j) l[j] = true := by
  intro l
  induction l with
  | nil => intro w f _ _ j h; simp at h
  | cons e l ih =>
    intro w f hK hok j h
    obtain ⟨k, ht, h2⟩ := hok
    cases j with
    | zero =>
      have := takes_fits (hK e.id)
      rw [ht] at this
      simpa using this.symm
    | succ j =>
      have := ih (w ++ [e]) (put1 f e.id k) (hK.put ht) h2 j (by simpa using h)
      simpa using this

/-- A right row: each event fits behind those ahead of it. -/
def Right (l : List Ev) : Prop := ∀ (j : Nat) (h : j < l.length), fitsS (l.take j) l[j] = true
theorem right_of_ok {l : List Ev} (h : okS (fun _ => noKn) l) : Right l := fun j hj => by
  have := ok_fits l [] _ Known.nil h j hj
  simpa using this

theorem fits_begin {w : List Ev} {e : Ev} {x : Int} (h : fitsS w e = true) (he : isEv 1 x e = true) : countS w 1 x = 0 := by
  obtain ⟨h1, rfl⟩ := (isEv_iff _ _ _).1 he
  unfold fitsS at h
  split at h
  · cases h
  · simp at h; exact h.1
theorem fits_mark {w : List Ev} {e : Ev} {x : Int} (h : fitsS w e = true) (he : isEv 2 x e = true) : countS w 1 x = 1 ∧ countS w 2 x = 0 := by
  obtain ⟨h1, rfl⟩ := (isEv_iff _ _ _).1 he
  unfold fitsS at h
  split at h
  · cases h
  · simp [h1] at h; exact ⟨by exact_mod_cast h.1.1, by exact_mod_cast h.1.2⟩
theorem fits_end {w : List Ev} {e : Ev} {x : Int} (h : fitsS w e = true) (he : isEv 3 x e = true) : countS w 2 x = 1 := by
  obtain ⟨h1, rfl⟩ := (isEv_iff _ _ _).1 he
  unfold fitsS at h
  split at h
  · cases h
  · simp [h1] at h; exact_mod_cast h.1.1.1

theorem count_zero {l : List Ev} {p : Nat} {k x : Int} (h : countS (l.take p) k x = 0) {j : Nat} (hj : j < p) (hl : j < l.length) : isEv k x l[j] = false := by
  unfold countS at h
  rw [List.countP_eq_zero] at h
  have := h l[j] (by rw [List.mem_take_iff_getElem]; exact ⟨j, by omega, rfl⟩)
  simpa using this
theorem count_some {l : List Ev} {p : Nat} {k x : Int} (h : countS (l.take p) k x ≠ 0) : ∃ (j : Nat) (hl : j < l.length), j < p ∧ isEv k x l[j] = true := by
  unfold countS at h
  have h0 : 0 < (l.take p).countP (isEv k x) := by omega
  obtain ⟨e, he, hp⟩ := List.countP_pos_iff.1 h0
  rw [List.mem_take_iff_getElem] at he
  obtain ⟨j, hj, rfl⟩ := he
  exact ⟨j, by omega, by omega, hp⟩

section right
variable {l : List Ev} (R : Right l)
include R
theorem Right.mark_one {p q : Nat} {x : Int} (hp : p < l.length) (hq : q < l.length) (h1 : isEv 2 x l[p] = true) (h2 : isEv 2 x l[q] = true) : p = q := by
  rcases Nat.lt_trichotomy p q with h | h | h
  · have := count_zero (fits_mark (R q hq) h2).2 h hp; rw [h1] at this; cases this
  · exact h
  · have := count_zero (fits_mark (R p hp) h1).2 h hq; rw [h2] at this; cases this
theorem Right.begin_ahead {p : Nat} {x : Int} (hp : p < l.length) (h1 : isEv 2 x l[p] = true) : ∃ (b : Nat) (hb : b < l.length), b < p ∧ isEv 1 x l[b] = true :=
  count_some (by rw [(fits_mark (R p hp) h1).1]; simp)
theorem Right.mark_ahead {q : Nat} {x : Int} (hq : q < l.length) (h1 : isEv 3 x l[q] = true) : ∃ (p : Nat) (hp : p < l.length), p < q ∧ isEv 2 x l[p] = true :=
  count_some (by rw [fits_end (R q hq) h1]; simp)

/-- The earlier mark's operation is not behind the later one's end. -/
theorem Right.not_ahead {p q : Nat} {x y : Int} (hp : p < l.length) (hq : q < l.length) (hqp : q < p) (h1 : isEv 2 x l[p] = true) (h2 : isEv 2 y l[q] = true) : aheadS l x y = false := by
  cases ha : aheadS l x y with
  | false => rfl
  | true =>
    obtain ⟨i, hi, h3, e, he, h4⟩ := ahead_iff.1 ha
    obtain ⟨p', hp', hlt, h5⟩ := R.mark_ahead hi h3
    obtain rfl := R.mark_one hp hp' h1 h5
    rw [List.mem_drop_iff_getElem] at he
    obtain ⟨r, hr, rfl⟩ := he
    obtain ⟨b, hb, hbq, h6⟩ := R.begin_ahead hq h2
    have := count_zero (fits_begin (R _ (by omega)) h4) (j := b) (by omega) hb
    rw [h6] at this; cases this

theorem Right.places {p : Nat} {x : Int} (hp : p < l.length) (h1 : isEv 2 x l[p] = true) : 0 ≤ idxS (isEv 1 x) l ∧ idxS (isEv 1 x) l ≤ idxS (isEv 2 x) l ∧ (0 ≤ idxS (isEv 3 x) l → idxS (isEv 2 x) l ≤ idxS (isEv 3 x) l) := by
  obtain ⟨b, hb, hbp, hb1⟩ := R.begin_ahead hp h1
  have hle : ∀ {k : Int} {j : Nat} (hj : j < l.length), isEv k x l[j] = true → ∃ i : Nat, l.findIdx? (isEv k x) = some i ∧ i ≤ j := by
    intro k j hj hk
    cases hq : l.findIdx? (isEv k x) with
    | none => rw [List.findIdx?_eq_none_iff] at hq; rw [hq _ (List.getElem_mem hj)] at hk; cases hk
    | some i =>
      refine ⟨i, rfl, ?_⟩
      rw [List.findIdx?_eq_some_iff_getElem] at hq
      obtain ⟨_, _, h3⟩ := hq
      rcases Nat.lt_or_ge j i with hlt | hge
      · have := h3 j hlt; rw [hk] at this; simp at this
      · exact hge
  obtain ⟨ib, eb, _⟩ := hle hb hb1
  obtain ⟨ic, ec, _⟩ := hle hp h1
  have hc := ec
  rw [List.findIdx?_eq_some_iff_getElem] at hc
  obtain ⟨hc1, hc2, _⟩ := hc
  obtain ⟨b', hb', hbc, hb2⟩ := R.begin_ahead hc1 hc2
  obtain ⟨ib', eb', hib⟩ := hle hb' hb2
  rw [eb] at eb'
  obtain rfl := Option.some.inj eb'
  refine ⟨by simp [idxS, eb], by simp only [idxS, eb, ec]; omega, fun h => ?_⟩
  cases hd : l.findIdx? (isEv 3 x) with
  | none => simp [idxS, hd] at h
  | some id =>
    have hd2 := hd
    rw [List.findIdx?_eq_some_iff_getElem] at hd2
    obtain ⟨hd1, hd2, _⟩ := hd2
    obtain ⟨q, hq, hqd, hq2⟩ := R.mark_ahead hd1 hd2
    obtain ⟨ic', ec', hic⟩ := hle hq hq2
    rw [ec] at ec'
    obtain rfl := Option.some.inj ec'
    simp only [idxS, ec, hd]; omega
end right

theorem marks_cons (e : Ev) (l : List Ev) : marksS (e :: l) = (if e.kind == 2 then [e.id] else []) ++ marksS l := by
  unfold marksS
  cases hq : e.kind == 2 <;> simp [hq]

theorem marks_pos : ∀ (l : List Ev) (i : Nat) (x : Int), (marksS l)[i]? = some x → ∃ (p : Nat) (h : p < l.length), isEv 2 x l[p] = true ∧ (marksS (l.take p)).length = i := by
  intro l
  induction l with
  | nil => intro i x h; simp [marksS] at h
  | cons e l ih =>
    intro i x h
    rw [marks_cons] at h
    cases hq : e.kind == 2 with
    | true =>
      rw [hq] at h
      cases i with
      | zero =>
        simp at h
        refine ⟨0, by simp, (isEv_iff _ _ _).2 ⟨by simpa using hq, h⟩, by simp [marksS]⟩
      | succ i =>
        obtain ⟨p, hp, h1, h2⟩ := ih i x (by simpa using h)
        refine ⟨p + 1, by simpa using hp, h1, ?_⟩
        rw [List.take_succ_cons, marks_cons, hq]; simp [h2]
    | false =>
      rw [hq] at h
      obtain ⟨p, hp, h1, h2⟩ := ih i x (by simpa using h)
      refine ⟨p + 1, by simpa using hp, h1, ?_⟩
      rw [List.take_succ_cons, marks_cons, hq]; simp [h2]

theorem marks_mono (l : List Ev) {p q : Nat} (h : p ≤ q) : (marksS (l.take p)).length ≤ (marksS (l.take q)).length := by
  have : l.take p = (l.take q).take p := by rw [List.take_take]; congr 1; omega
  rw [this]
  generalize l.take q = m
  unfold marksS
  rw [List.length_map, List.length_map]
  exact ((List.take_sublist p m).filter _).length_le

/-- Two marks of a right row. -/
theorem Right.pair {l : List Ev} (R : Right l) {i k : Nat} {x y : Int} (hk : k < i) (h1 : (marksS l)[i]? = some x) (h2 : (marksS l)[k]? = some y) : x ≠ y ∧ aheadS l x y = false := by
  obtain ⟨p, hp, p1, p2⟩ := marks_pos l i x h1
  obtain ⟨q, hq, q1, q2⟩ := marks_pos l k y h2
  have hqp : q < p := by
    rcases Nat.lt_or_ge q p with h | h
    · exact h
    · have := marks_mono l h; omega
  refine ⟨?_, R.not_ahead hp hq hqp p1 q1⟩
  rintro rfl
  have := R.mark_one hp hq p1 q1
  omega
theorem Right.mark {l : List Ev} (R : Right l) {i : Nat} {x : Int} (h1 : (marksS l)[i]? = some x) : 0 ≤ idxS (isEv 1 x) l ∧ idxS (isEv 1 x) l ≤ idxS (isEv 2 x) l ∧ (0 ≤ idxS (isEv 3 x) l → idxS (isEv 2 x) l ≤ idxS (isEv 3 x) l) := by
  obtain ⟨p, hp, p1, _⟩ := marks_pos l i x h1
  exact R.places hp p1
end Go.Proofs.Ytmdfjojohfhcgaa.LF
