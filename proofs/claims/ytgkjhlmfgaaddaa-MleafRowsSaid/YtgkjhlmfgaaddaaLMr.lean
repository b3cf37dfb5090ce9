/- Leaves, in plain Lean: a right leaf's slots in use rise; what Put and Delete make of them. -/
import Derived.Test.YtgkjhlmfgaaddaaLMi
set_option linter.unusedVariables false
set_option linter.unusedSimpArgs false
namespace Go.Proofs.Ytgkjhlmfgaaddaa.LF
open Go.RowKit
set_option linter.unusedVariables false

theorem nib_getD (p i : Nat) (h : i < 15) : nib p i = (slots p).getD i 0 := by
  rw [List.getD_eq_getElem?_getD, slots_get p i h]; rfl
theorem ins_get_lt {e : List Nat} {b x k : Nat} (h : k < b) (hb : b ≤ e.length) : (ins e b x).getD k 0 = e.getD k 0 := by
  unfold ins
  rw [List.getD_eq_getElem?_getD, List.getD_eq_getElem?_getD, List.getElem?_append_left (by simp; omega), List.getElem?_take, if_pos h]
theorem ins_get_gt {e : List Nat} {b x k : Nat} (h : b ≤ k) (hb : b ≤ e.length) : (ins e b x).getD (k + 1) 0 = e.getD k 0 := by
  unfold ins
  rw [List.getD_eq_getElem?_getD, List.getD_eq_getElem?_getD, List.getElem?_append_right (by simp; omega)]
  rw [show k + 1 - (e.take b).length = (k - b) + 1 by simp; omega, List.getElem?_cons_succ, List.getElem?_drop, show b + (k - b) = k by omega]
theorem ers_get_lt {l : List Nat} {a k : Nat} (h : k < a) (ha : a < l.length) : (ers l a).getD k 0 = l.getD k 0 := by
  unfold ers
  rw [List.getD_eq_getElem?_getD, List.getD_eq_getElem?_getD, List.getElem?_append_left (by simp; omega), List.getElem?_take, if_pos h]
theorem ers_get_ge {l : List Nat} {a k : Nat} (h : a ≤ k) (ha : a < l.length) : (ers l a).getD k 0 = l.getD (k + 1) 0 := by
  unfold ers
  rw [List.getD_eq_getElem?_getD, List.getD_eq_getElem?_getD, List.getElem?_append_right (by simp; omega), List.getElem?_drop]
  rw [show a + 1 + (k - (l.take a).length) = k + 1 by simp; omega]

/-- Where the slots stand behind an Insert. -/
theorem insW_len {p i : Nat} (hn : p % 16 < 15) : insW p i % 16 = p % 16 + 1 := wd_mod _ (by omega)
theorem insW_slots {p i : Nat} (hn : p % 16 < 15) (hi : i ≤ p % 16) : slots (insW p i) = mv (slots p) (p % 16) i := by
  have hl := slots_length p
  exact slots_wd (by omega) (by rw [mv_length (by omega) (by omega)]; omega) (mv_below (by omega) (slots_lt p))
theorem insW_rt {p i : Nat} (hr : Rt (slots p)) (hn : p % 16 < 15) (hi : i ≤ p % 16) : Rt (slots (insW p i)) := by
  rw [insW_slots hn hi]; exact mv_Rt (by rw [slots_length]; omega) hr
theorem insW_nib {p i k : Nat} (hn : p % 16 < 15) (hi : i ≤ p % 16) (hk : k < 15) : nib (insW p i) k = if k < i then nib p k else if k = i then nib p (p % 16) else if k ≤ p % 16 then nib p (k - 1) else nib p k := by
  have hl := slots_length p
  have h1 : p % 16 < (slots p).length := by omega
  have he := ers_length h1
  rw [nib_getD _ _ hk, insW_slots hn hi]
  unfold mv
  split
  · rw [ins_get_lt (by omega) (by omega), ers_get_lt (by omega) h1, nib_getD _ _ hk]
  · split
    · rename_i h; subst h
      rw [ins_get (by omega), nib_getD _ _ hn]
    · obtain ⟨j, rfl⟩ : ∃ j, k = j + 1 := ⟨k - 1, by omega⟩
      rw [ins_get_gt (by omega) (by omega)]
      split
      · rw [ers_get_lt (by omega) h1, Nat.add_sub_cancel, nib_getD _ _ (by omega)]
      · rw [ers_get_ge (by omega) h1, nib_getD _ _ hk]
/-- Where the slots stand behind a Remove. -/
theorem remW_len {p i : Nat} (hi : i < p % 16) : remW p i % 16 = p % 16 - 1 := wd_mod _ (by omega)
theorem remW_slots {p i : Nat} (hn : p % 16 ≤ 15) (hi : i < p % 16) : slots (remW p i) = mv (slots p) i (p % 16 - 1) := by
  have hl := slots_length p
  exact slots_wd (by omega) (by rw [mv_length (by omega) (by omega)]; omega) (mv_below (by omega) (slots_lt p))
theorem remW_rt {p i : Nat} (hr : Rt (slots p)) (hn : p % 16 ≤ 15) (hi : i < p % 16) : Rt (slots (remW p i)) := by
  rw [remW_slots hn hi]; exact mv_Rt (by rw [slots_length]; omega) hr
theorem remW_nib {p i k : Nat} (hn : p % 16 ≤ 15) (hi : i < p % 16) (hk : k < 15) : nib (remW p i) k = if k < i then nib p k else if k < p % 16 - 1 then nib p (k + 1) else if k = p % 16 - 1 then nib p i else nib p k := by
  have hl := slots_length p
  have h1 : i < (slots p).length := by omega
  have he := ers_length h1
  rw [nib_getD _ _ hk, remW_slots hn hi]
  unfold mv
  split
  · rw [ins_get_lt (by omega) (by omega), ers_get_lt (by omega) h1, nib_getD _ _ hk]
  · split
    · rw [ins_get_lt (by omega) (by omega), ers_get_ge (by omega) h1, nib_getD _ _ (by omega)]
    · split
      · rename_i h; subst h
        rw [ins_get (by omega), nib_getD _ _ (by omega)]
      · obtain ⟨j, rfl⟩ : ∃ j, k = j + 1 := ⟨k - 1, by omega⟩
        rw [ins_get_gt (by omega) (by omega), ers_get_ge (by omega) h1, nib_getD _ _ hk]
/-- What was inserted and is removed leaves the word. -/
theorem insW_rem {p i : Nat} (hp : p < 18446744073709551616) (hn : p % 16 < 15) (hi : i ≤ p % 16) : remW (insW p i) i = p := by
  have hl := slots_length p
  unfold remW
  rw [insW_len hn, insW_slots hn hi, Nat.add_sub_cancel, mv_back (by omega) (by omega), wd_slots p hp]

theorem nib_inj {p : Nat} (h : Rt (slots p)) {i j : Nat} (hi : i < 15) (hj : j < 15) (e : nib p i = nib p j) : i = j := by
  have hl := slots_length p
  have hn := ((rt_parts p).1 h).1
  have h1 := slots_get p i hi
  have h2 := slots_get p j hj
  rw [e, ← h2] at h1
  exact (List.getElem?_inj (by omega) hn).1 h1
theorem nib_all {p : Nat} (h : Rt (slots p)) {x : Nat} (hx : x < 15) : ∃ k, k < 15 ∧ nib p k = x := by
  have := h x hx
  unfold slots at this
  rw [List.mem_map] at this
  obtain ⟨k, hk, e⟩ := this
  exact ⟨k, List.mem_range.1 hk, e⟩

/-- The order of marks is one. -/
theorem lessM_irr (a : MarkV) : lessM a a = false := by simp [lessM]
theorem lessM_iff (a b : MarkV) : lessM a b = true ↔ a.s < b.s ∨ (a.s = b.s ∧ a.c < b.c) := by simp [lessM]
theorem lessM_trans {a b c : MarkV} (h : lessM a b = true) (k : lessM b c = true) : lessM a c = true := by
  rw [lessM_iff] at *; omega
theorem lessM_tri (a b : MarkV) : lessM a b = true ∨ a = b ∨ lessM b a = true := by
  rw [lessM_iff, lessM_iff]
  rcases a with ⟨s, c⟩
  rcases b with ⟨s', c'⟩
  rw [MarkV.mk.injEq]
  show (s < s' ∨ s = s' ∧ c < c') ∨ (s = s' ∧ c = c') ∨ (s' < s ∨ s' = s ∧ c' < c)
  omega
theorem lessM_asym {a b : MarkV} (h : lessM a b = true) : lessM b a = false := by
  cases e : lessM b a with
  | false => rfl
  | true => rw [lessM_iff] at *; omega
theorem eqM_iff (a b : MarkV) : eqM a b = true ↔ a = b := by
  rcases a with ⟨s, c⟩
  rcases b with ⟨s', c'⟩
  simp [eqM]
theorem isNo_iff (s : SlotV) : isNo s = true ↔ s = noSlot := by
  rcases s with ⟨⟨ms, mc⟩, r, v, d, x, y⟩
  simp [isNo, noSlot, noMark]
  constructor
  · rintro ⟨⟨⟨⟨⟨⟨h1, h2⟩, h3⟩, h4⟩, h5⟩, h6⟩, h7⟩; exact ⟨⟨h1, h2⟩, h3, h4, h5, h6, h7⟩
  · rintro ⟨⟨h1, h2⟩, h3, h4, h5, h6, h7⟩; exact ⟨⟨⟨⟨⟨⟨h1, h2⟩, h3⟩, h4⟩, h5⟩, h6⟩, h7⟩

/-- What a right leaf is. -/
structure Fit (l : LeafV) : Prop where
  rt : Rt (slots l.p)
  hd : (if l.bounded then rightM l.high else decide (l.high.s = 0) && decide (l.high.c = 0)) = true
  rs : ∀ k, k < l.p % 16 → rightS (l.rank k) = true
  lt : ∀ k, k + 1 < l.p % 16 → lessM (l.rank k).m (l.rank (k + 1)).m = true
  cv : ∀ k, k < l.p % 16 → coversL l (l.rank k).m = true
  no : ∀ k, l.p % 16 ≤ k → k < 15 → l.rank k = noSlot
theorem fit_iff (l : LeafV) : rightL l = true ↔ Fit l := by
  constructor
  · intro h
    have hrt : rt (slots l.p) = true := rightL_rt h
    have hn := rt_le hrt
    unfold rightL at h
    rw [Bool.and_eq_true, List.all_eq_true] at h
    obtain ⟨h1, h2⟩ := h
    have h2 : ∀ k, k < 15 → rankR l k = true := fun k hk => h2 k (List.mem_range.2 hk)
    unfold headR at h1
    rw [Bool.and_eq_true] at h1
    have h3 : ∀ k, k < l.p % 16 → rightS (l.rank k) = true ∧ (decide (k = 0) || lessM (l.rank (k - 1)).m (l.rank k).m) = true ∧ coversL l (l.rank k).m = true := fun k hk => by
      have := h2 k (by omega)
      unfold rankR at this
      rw [if_pos hk, Bool.and_eq_true, Bool.and_eq_true] at this
      exact ⟨this.1.1, this.1.2, this.2⟩
    refine ⟨(rt_iff _).1 hrt, h1.2, fun k hk => (h3 k hk).1, fun k hk => ?_, fun k hk => (h3 k hk).2.2, fun k hk hk2 => ?_⟩
    · have := (h3 (k + 1) hk).2.1
      rw [decide_eq_false (show ¬ k + 1 = 0 by omega), Bool.false_or, Nat.add_sub_cancel] at this
      exact this
    · have := h2 k hk2
      unfold rankR at this
      rw [if_neg (by omega)] at this
      exact (isNo_iff _).1 this
  · intro h
    refine rightL_yes (by unfold headR; rw [rt_yes h.rt, h.hd]; rfl) fun k hk => ?_
    unfold rankR
    split
    · rename_i hk2
      rw [h.rs k hk2, h.cv k hk2]
      cases k with
      | zero => rfl
      | succ k =>
        rw [Nat.add_sub_cancel, h.lt k hk2, decide_eq_false (show ¬ k + 1 = 0 by omega)]; rfl
    · exact (isNo_iff _).2 (h.no k (by omega) hk)
theorem Fit.right {l : LeafV} (h : Fit l) : rightL l = true := (fit_iff l).2 h
theorem Fit.le {l : LeafV} (h : Fit l) : l.p % 16 ≤ 15 := rt_le (rt_yes h.rt)
theorem Fit.rise {l : LeafV} (h : Fit l) {i j : Nat} (hij : i < j) (hj : j < l.p % 16) : lessM (l.rank i).m (l.rank j).m = true := by
  induction j with
  | zero => omega
  | succ j ih =>
    rcases Nat.lt_or_ge i j with h2 | h2
    · exact lessM_trans (ih h2 (by omega)) (h.lt j hj)
    · obtain rfl : i = j := by omega
      exact h.lt i hj

/-- Find, of a right leaf. -/
structure Found (l : LeafV) (m : MarkV) (i : Nat) (is : Bool) : Prop where
  le : i ≤ l.p % 16
  lo : ∀ j, j < i → lessM (l.rank j).m m = true
  at_ : is = true → i < l.p % 16 ∧ (l.rank i).m = m
  hi : is = false → ∀ j, i ≤ j → j < l.p % 16 → lessM m (l.rank j).m = true
  hi2 : ∀ j, i < j → j < l.p % 16 → lessM m (l.rank j).m = true
theorem first_false (f : Nat → Bool) : ∀ n, ∃ k, k ≤ n ∧ (∀ j, j < k → f j = true) ∧ (k < n → f k = false)
  | 0 => ⟨0, by omega, fun j hj => by omega, fun h => by omega⟩
  | n + 1 => by
    obtain ⟨k, h1, h2, h3⟩ := first_false f n
    rcases Nat.lt_or_ge k n with h | h
    · exact ⟨k, by omega, h2, fun _ => h3 h⟩
    · obtain rfl : k = n := by omega
      cases e : f k with
      | false => exact ⟨k, by omega, h2, fun _ => e⟩
      | true => exact ⟨k + 1, by omega, fun j hj => by
          rcases Nat.lt_or_ge j k with h4 | h4
          · exact h2 j h4
          · obtain rfl : j = k := by omega
            exact e, fun h4 => by omega⟩
theorem found {l : LeafV} (h : Fit l) (m : MarkV) : Found l m (findL l m).1 (findL l m).2 := by
  obtain ⟨i, hle, hpre, hat⟩ := first_false (fun k => lessM (l.rank k).m m) (l.p % 16)
  have hi := lessN_of l m hle hpre hat
  have e : findL l m = (i, decide (i < l.p % 16) && eqM (l.rank i).m m) := by
    unfold findL; rw [h.right, if_pos rfl, hi]
  rw [e]
  have hup : i < l.p % 16 → (m = (l.rank i).m ∨ lessM m (l.rank i).m = true) := fun hlt => by
    have := hat hlt
    rcases lessM_tri (l.rank i).m m with h1 | h1 | h1
    · rw [h1] at this; cases this
    · exact .inl h1.symm
    · exact .inr h1
  have hi2 : ∀ j, i < j → j < l.p % 16 → lessM m (l.rank j).m = true := fun j h1 h2 => by
    rcases hup (by omega) with h3 | h3
    · rw [h3]; exact h.rise h1 h2
    · exact lessM_trans h3 (h.rise h1 h2)
  refine ⟨hle, hpre, fun h1 => ?_, fun h1 j h2 h3 => ?_, hi2⟩
  · have h1 : (decide (i < l.p % 16) && eqM (l.rank i).m m) = true := h1
    rw [Bool.and_eq_true, decide_eq_true_iff, eqM_iff] at h1
    exact h1
  · have h1 : (decide (i < l.p % 16) && eqM (l.rank i).m m) = false := h1
    rcases Nat.lt_or_ge i j with h4 | h4
    · exact hi2 j h4 h3
    · obtain rfl : i = j := by omega
      rw [decide_eq_true h3, Bool.true_and] at h1
      rcases hup h3 with h5 | h5
      · rw [(eqM_iff _ _).2 h5.symm] at h1; cases h1
      · exact h5
theorem Found.no {l : LeafV} (h : Fit l) {m : MarkV} {i : Nat} (f : Found l m i false) : ∀ j, j < l.p % 16 → (l.rank j).m ≠ m := fun j hj e => by
  rcases Nat.lt_or_ge j i with h1 | h1
  · have := f.lo j h1; rw [e, lessM_irr] at this; cases this
  · have := f.hi rfl j h1 hj; rw [e, lessM_irr] at this; cases this
theorem found_of {l : LeafV} (h : Fit l) {m : MarkV} {k : Nat} (hk : k < l.p % 16) (e : (l.rank k).m = m) : findL l m = (k, true) := by
  have f := found h m
  obtain ⟨i, b, hib⟩ : ∃ i b, findL l m = (i, b) := ⟨_, _, rfl⟩
  rw [hib] at f ⊢
  have f : Found l m i b := f
  cases b with
  | false => exact absurd e (f.no h k hk)
  | true =>
    have h1 := f.at_ rfl
    rcases Nat.lt_trichotomy i k with h2 | h2 | h2
    · have := h.rise h2 hk; rw [h1.2, e, lessM_irr] at this; cases this
    · rw [h2]
    · have := h.rise h2 h1.1; rw [h1.2, e, lessM_irr] at this; cases this
theorem found_none {l : LeafV} (h : Fit l) {m : MarkV} (hno : ∀ k, k < l.p % 16 → (l.rank k).m ≠ m) : (findL l m).2 = false := by
  cases e : (findL l m).2 with
  | false => rfl
  | true =>
    have f := found h m
    have := f.at_ e
    exact absurd this.2 (hno _ this.1)
end Go.Proofs.Ytgkjhlmfgaaddaa.LF
