/- The B-link node: plain: where a key leads; what is added; halves. -/
import Derived.Test.YtjcpcgneghanfaaLBp
set_option linter.unusedVariables false
set_option linter.unusedSimpArgs false
namespace Go.Proofs.Ytjcpcgneghanfaa.LF
open Go.RowKit
set_option linter.unusedVariables false

theorem le_lt {k x s : ByteArray} (h : ltS k x = false) (h2 : ltS k s = true) : ltS x s = true := by
  cases hx : ltS x k with
  | true => exact ltS_trans hx h2
  | false => exact ltS_total hx h ▸ h2
theorem lt_le {k x s : ByteArray} (h : ltS x k = true) (h2 : ltS s k = false) : ltS x s = true := by
  cases hx : ltS k s with
  | true => exact ltS_trans h hx
  | false => exact ltS_total hx h2 ▸ h
theorem cnt_hi {l : List ByteArray} (h : risesL l = true) {k : ByteArray} {i : Nat} (h1 : cntK l k ≤ i) (h2 : i < l.length) : ltS l[i] k = false := by
  have hg := cntK_ge (l := l) (k := k) (by omega)
  cases hq : ltS l[i] k with
  | false => rfl
  | true =>
    rcases Nat.eq_or_lt_of_le h1 with e | e
    · subst e; rw [hg] at hq; cases hq
    · rw [ltS_trans (rises_lt h e h2) hq] at hg; cases hg

section
variable {n : NdV} {k : ByteArray}
theorem idxN_le (n : NdV) (k : ByteArray) : idxN n k ≤ n.keys.length := by
  unfold idxN
  split
  · rename_i h; obtain ⟨hl, _⟩ := hasK_lt h; omega
  · exact cntK_le _ _
theorem idx_lo {i : Nat} (h : i < idxN n k) : ltS k (n.keys[i]'(Nat.lt_of_lt_of_le h (idxN_le n k))) = false := by
  by_cases h1 : i < cntK n.keys k
  · exact ltS_asymm (cntK_lt h1)
  · unfold idxN at h
    split at h
    · rename_i hh
      obtain ⟨hl, e⟩ := hasK_lt hh
      obtain rfl : i = cntK n.keys k := by omega
      rw [e]; exact ltS_irrefl _
    · omega
theorem idx_hi (hr : risesL n.keys = true) {i : Nat} (h : idxN n k ≤ i) (hi : i < n.keys.length) : ltS k n.keys[i] = true := by
  unfold idxN at h
  split at h
  · rename_i hh
    obtain ⟨hl, e⟩ := hasK_lt hh
    have := rises_lt hr (i := cntK n.keys k) (j := i) (by omega) hi
    rwa [e] at this
  · rename_i hh
    have h1 := cnt_hi hr (k := k) h hi
    cases hq : ltS k n.keys[i] with
    | true => rfl
    | false =>
      have e := ltS_total h1 hq
      exfalso; apply hh
      rw [hasK_mem hr, ← e]; exact List.getElem_mem _
theorem idx_of (hr : risesL n.keys = true) {j : Nat} (hj : j ≤ n.keys.length) (h1 : ∀ i, i < j → ∀ (h : i < n.keys.length), ltS k n.keys[i] = false) (h2 : ∀ i, j ≤ i → ∀ (h : i < n.keys.length), ltS k n.keys[i] = true) : idxN n k = j := by
  have hle := idxN_le n k
  rcases Nat.lt_trichotomy (idxN n k) j with h | h | h
  · have a := idx_hi hr (Nat.le_refl (idxN n k)) (by omega)
    rw [h1 _ h (by omega)] at a; cases a
  · exact h
  · have a := idx_lo h
    rw [h2 _ (Nat.le_refl _) (by omega)] at a; cases a
theorem kid_get (hr : rightN n = true) (hl : n.leaf = false) (hc : coversN n k = true) : kidN n k = (n.kids.getD (idxN n k) noHd, true) := by
  unfold kidN; rw [hl, hr, hc]; rfl
theorem kid_leaf (hl : n.leaf = true) : kidN n k = (noHd, false) := by
  unfold kidN; rw [hl]; rfl
end

theorem insL_get {α : Type} (l : List α) {c : Nat} (hc : c ≤ l.length) (x : α) (i : Nat) : (insL l c x)[i]? = if i < c then l[i]? else if i = c then some x else l[i - 1]? := by
  unfold insL
  by_cases h1 : i < c
  · rw [if_pos h1, List.getElem?_append_left (by simp; omega), List.getElem?_take, if_pos h1]
  · rw [if_neg h1, List.getElem?_append_right (by simp; omega), List.length_take, Nat.min_eq_left hc]
    by_cases h2 : i = c
    · subst h2; rw [if_pos rfl, Nat.sub_self]; rfl
    · rw [if_neg h2, show i - c = (i - 1 - c) + 1 by omega, List.getElem?_cons_succ, List.getElem?_drop]
      congr 1; omega
theorem getE {l : List ByteArray} {i : Nat} {x : ByteArray} (h : l[i]? = some x) (hi : i < l.length) : l[i] = x := by
  rw [List.getElem?_eq_getElem hi] at h; exact Option.some.inj h
def keyP (l : List ByteArray) : List Pr := l.map fun k => ⟨k, noBytes⟩
theorem keyP_map (l : List ByteArray) : (keyP l).map Pr.key = l := by unfold keyP; rw [List.map_map]; simp [Function.comp_def]
theorem ins_rises {l : List ByteArray} (h : risesL l = true) {k : ByteArray} (hh : hasK l k = false) : risesL (insL l (cntK l k) k) = true := by
  have hs : Srt (keyP l) := srt_rises.1 (by rw [keyP_map]; exact h)
  have h2 := hs.set k noBytes
  have hp : hasP (keyP l) k = false := by rw [← has_map, keyP_map]; exact hh
  rw [setP, if_neg (by rw [hp]; decide), ← srt_rises, map_insL, ← pos_map, keyP_map] at h2
  exact h2
theorem mem_insL {α : Type} {l : List α} {c : Nat} {x y : α} (h : y ∈ insL l c x) : y = x ∨ y ∈ l := by
  unfold insL at h
  rcases List.mem_append.1 h with h | h
  · exact .inr (List.mem_of_mem_take h)
  · rcases List.mem_cons.1 h with h | h
    · exact .inl h
    · exact .inr (List.mem_of_mem_drop h)
theorem rightN_all {n : NdV} (h : rightN n = true) : ∀ k ∈ n.keys, coversN n k = true := by
  rw [rightN_eq] at h
  simp only [Bool.and_eq_true] at h
  exact List.all_eq_true.1 h.1.2
theorem rightN_high {n : NdV} (h : rightN n = true) : (!n.bounded && !decide (n.high = noBytes)) = false := by
  rw [rightN_eq] at h
  simp only [Bool.and_eq_true] at h
  exact (by simpa only [Bool.not_eq_true'] using h.2.1)
theorem rightN_mk {n : NdV} (h1 : risesL n.keys = true) (h2 : ∀ k ∈ n.keys, coversN n k = true) (h3 : (!n.bounded && !decide (n.high = noBytes)) = false) (h4 : shapeN n = true) : rightN n = true := by
  rw [rightN_eq, h1, List.all_eq_true.2 h2, h3, h4]; rfl

section
variable {n : NdV} {sep : ByteArray} {kid : HdV}
theorem add_is (h : shutN n sep = false) : addN n sep kid = n.add (cntK n.keys sep) sep kid := by rw [addN, if_neg (by rw [h]; decide)]
theorem add_right (h : shutN n sep = false) : rightN (n.add (cntK n.keys sep) sep kid) = true := by
  obtain ⟨hh, hl, hr, hc⟩ := shutN_no h
  obtain ⟨hv, hk⟩ := rightN_inner hr hl
  have hcl := cntK_le n.keys sep
  refine rightN_mk (ins_rises (rightN_rises hr) hh) (fun k hk => ?_) (show (!n.bounded && !decide (n.high = noBytes)) = false from rightN_high hr) ?_
  · show coversN n k = true
    rcases mem_insL hk with rfl | hk
    · exact hc
    · exact rightN_all hr k hk
  · unfold shapeN
    rw [if_neg (by show ¬ n.leaf = true; rw [hl]; decide)]
    show (decide (n.vals.length = 0) && decide ((insL n.kids (cntK n.keys sep + 1) kid).length = (insL n.keys (cntK n.keys sep) sep).length + 1)) = true
    rw [insL_length _ hcl, insL_length _ (by omega), hv, hk]; simp
theorem add_idx (h : shutN n sep = false) (k : ByteArray) : idxN (n.add (cntK n.keys sep) sep kid) k = (if ltS k sep then idxN n k else idxN n k + 1) ∧ (ltS k sep = true → idxN n k ≤ cntK n.keys sep) ∧ (ltS k sep = false → cntK n.keys sep ≤ idxN n k) := by
  obtain ⟨hh, hl, hr, hc⟩ := shutN_no h
  have hrs := rightN_rises hr
  have hcl := cntK_le n.keys sep
  have hrm : risesL (n.add (cntK n.keys sep) sep kid).keys = true := ins_rises hrs hh
  have hlen : (n.add (cntK n.keys sep) sep kid).keys.length = n.keys.length + 1 := insL_length _ hcl _
  have hjl := idxN_le n k
  have hget : ∀ (i : Nat) (hi : i < (n.add (cntK n.keys sep) sep kid).keys.length), some ((n.add (cntK n.keys sep) sep kid).keys[i]) = if i < cntK n.keys sep then n.keys[i]? else if i = cntK n.keys sep then some sep else n.keys[i - 1]? := fun i hi => by
    rw [← insL_get n.keys hcl sep i]
    exact (List.getElem?_eq_getElem hi).symm
  cases hlt : ltS k sep with
  | true =>
    have hjc : idxN n k ≤ cntK n.keys sep := by
      rcases Nat.lt_or_ge (cntK n.keys sep) (idxN n k) with h1 | h1
      · have a := idx_lo h1
        have b := cnt_hi hrs (k := sep) (Nat.le_refl _) (show cntK n.keys sep < n.keys.length by omega)
        rw [le_lt a hlt] at b; cases b
      · exact h1
    refine ⟨?_, fun _ => hjc, fun h => (Bool.noConfusion h)⟩
    rw [if_pos rfl]
    refine idx_of hrm (by omega) (fun i hi hil => ?_) (fun i hi hil => ?_)
    · have e := hget i hil
      rw [if_pos (by omega), List.getElem?_eq_getElem (by omega)] at e
      rw [Option.some.inj e]; exact idx_lo hi
    · have e := hget i hil
      by_cases h1 : i < cntK n.keys sep
      · rw [if_pos h1, List.getElem?_eq_getElem (by omega)] at e
        rw [Option.some.inj e]; exact idx_hi hrs hi (by omega)
      · rw [if_neg h1] at e
        by_cases h2 : i = cntK n.keys sep
        · rw [if_pos h2] at e
          rw [Option.some.inj e]; exact hlt
        · rw [if_neg h2, List.getElem?_eq_getElem (by omega)] at e
          rw [Option.some.inj e]; exact idx_hi hrs (by omega) (by omega)
  | false =>
    have hjc : cntK n.keys sep ≤ idxN n k := by
      rcases Nat.lt_or_ge (idxN n k) (cntK n.keys sep) with h1 | h1
      · have a := cntK_lt h1
        have b := idx_hi hrs (Nat.le_refl (idxN n k)) (show idxN n k < n.keys.length by omega)
        rw [ltS_trans b a] at hlt; cases hlt
      · exact h1
    refine ⟨?_, fun h => (Bool.noConfusion h), fun _ => hjc⟩
    rw [if_neg (by decide)]
    refine idx_of hrm (by omega) (fun i hi hil => ?_) (fun i hi hil => ?_)
    · have e := hget i hil
      by_cases h1 : i < cntK n.keys sep
      · rw [if_pos h1, List.getElem?_eq_getElem (by omega)] at e
        rw [Option.some.inj e]; exact idx_lo (by omega)
      · rw [if_neg h1] at e
        by_cases h2 : i = cntK n.keys sep
        · rw [if_pos h2] at e
          rw [Option.some.inj e]; exact hlt
        · rw [if_neg h2, List.getElem?_eq_getElem (by omega)] at e
          rw [Option.some.inj e]; exact idx_lo (by omega)
    · have e := hget i hil
      rw [if_neg (by omega), if_neg (by omega), List.getElem?_eq_getElem (by omega)] at e
      rw [Option.some.inj e]; exact idx_hi hrs (by omega) (by omega)
/-- Where a key leads in a node with one kid more. -/
theorem add_kid (h : shutN n sep = false) {k : ByteArray} (hk : coversN n k = true) : kidN (n.add (cntK n.keys sep) sep kid) k = (if ltS k sep = false ∧ idxN n k = cntK n.keys sep then kid else n.kids.getD (idxN n k) noHd, true) := by
  obtain ⟨hh, hl, hr, hc⟩ := shutN_no h
  obtain ⟨hv, hkd⟩ := rightN_inner hr hl
  have hcl := cntK_le n.keys sep
  obtain ⟨e, h1, h2⟩ := add_idx (kid := kid) h k
  rw [kid_get (add_right h) hl (show coversN n k = true from hk), e]
  congr 1
  rw [List.getD_eq_getElem?_getD, List.getD_eq_getElem?_getD]
  show (insL n.kids (cntK n.keys sep + 1) kid)[_]?.getD noHd = _
  rw [insL_get n.kids (by omega)]
  by_cases hlt : ltS k sep = true
  · have := h1 hlt
    rw [show (if ltS k sep = true then idxN n k else idxN n k + 1) = idxN n k from if_pos hlt, if_pos (by omega), if_neg (by rw [hlt]; simp)]
  · have hlt : ltS k sep = false := by simpa using hlt
    have := h2 hlt
    rw [show (if ltS k sep = true then idxN n k else idxN n k + 1) = idxN n k + 1 from if_neg (by rw [hlt]; decide), if_neg (by omega)]
    by_cases h3 : idxN n k = cntK n.keys sep
    · rw [if_pos (by omega), if_pos ⟨hlt, h3⟩]; rfl
    · rw [if_neg (by omega), if_neg (fun h => h3 h.2)]; rfl
/-- The first key above. -/
theorem above_is (h : shutN n sep = false) {k : ByteArray} (hks : ltS k sep = false) {ab : Bool} {nx : ByteArray}
    (ha : (ab = false ∧ ∀ i (hi : i < n.keys.length), ltS sep n.keys[i] = false) ∨ (ab = true ∧ ∃ (i : Nat) (hi : i < n.keys.length), nx = n.keys[i] ∧ ltS sep n.keys[i] = true ∧ ∀ q (hq : q < i), ltS sep (n.keys[q]'(by omega)) = false)) :
    (!ab || ltS k nx) = true ↔ idxN n k = cntK n.keys sep := by
  obtain ⟨hh, hl, hr, hc⟩ := shutN_no h
  have hrs := rightN_rises hr
  obtain ⟨_, _, h2⟩ := add_idx (kid := noHd) h k
  have h2 := h2 hks
  have hjl := idxN_le n k
  have hgt : ∀ i, cntK n.keys sep ≤ i → ∀ (hi : i < n.keys.length), ltS sep n.keys[i] = true := fun i h1 hi => by
    have a := cnt_hi hrs h1 hi
    cases hq : ltS sep n.keys[i] with
    | true => rfl
    | false =>
      have e := ltS_total a hq
      have : hasK n.keys sep = true := (hasK_mem hrs sep).2 (e ▸ List.getElem_mem _)
      rw [hh] at this; cases this
  rcases ha with ⟨rfl, h3⟩ | ⟨rfl, i, hi, rfl, h3, h4⟩
  · constructor
    · intro _
      rcases Nat.lt_or_ge (cntK n.keys sep) n.keys.length with h5 | h5
      · have := hgt _ (Nat.le_refl _) h5
        rw [h3 _ h5] at this; cases this
      · omega
    · intro _; rfl
  · have hic : cntK n.keys sep ≤ i := by
      rcases Nat.lt_or_ge i (cntK n.keys sep) with h5 | h5
      · have := ltS_asymm (cntK_lt h5)
        rw [h3] at this; cases this
      · exact h5
    constructor
    · intro h5
      have h5 : ltS k n.keys[i] = true := by simpa using h5
      rcases Nat.lt_or_ge (cntK n.keys sep) (idxN n k) with h6 | h6
      · have h7 : i ≤ cntK n.keys sep := by
          rcases Nat.lt_or_ge (cntK n.keys sep) i with h8 | h8
          · have := hgt _ (Nat.le_refl _) (show cntK n.keys sep < n.keys.length by omega)
            rw [h4 _ h8] at this; cases this
          · exact h8
        rw [idx_lo (show i < idxN n k by omega)] at h5; cases h5
      · omega
    · intro h5
      rw [idx_hi hrs (show idxN n k ≤ i by omega) hi]; simp
end
end Go.Proofs.Ytjcpcgneghanfaa.LF
