/- Plain facts on slices: a text is its slices' texts; two texts stand as their first slices and classes do, and, where these are alike, as their rests. -/
import Derived.Test.YtiimchhbbjlegaaKeysM
namespace Go.Proofs.Ytiimchhbbjlegaa
open Go.Lib (compareBytes)

theorem slNum_div (l : List UInt8) (j : Nat) : ∀ m, slNum l (j + m) / 256 ^ m = slNum l j
  | 0 => by simp
  | m + 1 => by
    have ih := slNum_div l j m
    have hb := (l[j + m]?.getD 0).toNat_lt
    rw [← Nat.add_assoc, slNum, Nat.pow_succ', ← Nat.div_div_eq_div_mul]
    rw [show (slNum l (j + m) * 256 + (l[j + m]?.getD 0).toNat) / 256 = slNum l (j + m) by omega, ih]

theorem ub_slNum (l : List UInt8) (k : Nat) (hk : k < 8) : ub (slNum l 8) k = l[k]?.getD 0 := by
  apply UInt8.toNat_inj.1
  have hb := (l[k]?.getD 0).toNat_lt
  have h := slNum_div l (k + 1) (7 - k)
  rw [show k + 1 + (7 - k) = 8 by omega] at h
  rw [ub_toNat, Nat.pow_mul, show (2 : Nat) ^ 8 = 256 by rfl, h, slNum]
  omega

/-- The text of a slice is the bytes that it was made of. -/
theorem unslB_slNum (l : List UInt8) (c : Nat) (hc : c ≤ 8) (hl : c ≤ l.length) : unslB (slNum l 8) c = l.take c := by
  apply List.ext_getElem?
  intro i
  by_cases hi : i < c
  · rw [unslB_get _ _ _ hi, ub_slNum _ _ (by omega), List.getElem?_take, if_pos hi, List.getElem?_eq_getElem (by omega)]
    rfl
  · rw [List.getElem?_eq_none (by rw [unslB_length]; omega), List.getElem?_take, if_neg hi]

theorem slNum_mono (a b : List UInt8) (k : Nat) (h : slNum a k < slNum b k) : ∀ m, slNum a (k + m) < slNum b (k + m)
  | 0 => h
  | m + 1 => by
    have ih := slNum_mono a b k h m
    have h1 := (a[k + m]?.getD 0).toNat_lt
    rw [← Nat.add_assoc, slNum, slNum]
    omega
theorem slNum_lt_of (a b : List UInt8) (k : Nat) (hk : k < 8) (he : ∀ i, i < k → a[i]?.getD 0 = b[i]?.getD 0) (h : a[k]?.getD 0 < b[k]?.getD 0) : slNum a 8 < slNum b 8 := by
  have h1 : slNum a (k + 1) < slNum b (k + 1) := by
    rw [slNum, slNum, slNum_congr a b k he]
    have : (a[k]?.getD 0).toNat < (b[k]?.getD 0).toNat := h
    omega
  have := slNum_mono a b (k + 1) h1 (7 - k)
  rwa [show k + 1 + (7 - k) = 8 by omega] at this
theorem slNum_le_of (a b : List UInt8) : ∀ k, (∀ i, i < k → (a[i]?.getD 0).toNat ≤ (b[i]?.getD 0).toNat) → slNum a k ≤ slNum b k
  | 0, _ => Nat.le_refl _
  | k + 1, h => by
    have ih := slNum_le_of a b k (fun i hi => h i (by omega))
    have := h k (by omega)
    rw [slNum, slNum]; omega

theorem cmp_drop : ∀ (a b : List UInt8) (k : Nat), k ≤ com a b → compareBytes a b = compareBytes (a.drop k) (b.drop k)
  | _, _, 0, _ => by simp
  | [], _, k + 1, h => by simp [com] at h
  | _ :: _, [], k + 1, h => by simp [com] at h
  | a :: x, b :: y, k + 1, h => by
    unfold com at h
    by_cases e : a = b
    · subst e
      rw [if_pos rfl] at h
      rw [List.drop_succ_cons, List.drop_succ_cons, ← cmp_drop x y k (by omega)]
      have hn : ¬ a < a := UInt8.lt_irrefl a
      conv => lhs; unfold compareBytes
      rw [if_neg hn, if_neg hn]
    · rw [if_neg e] at h; omega

/-- How two first slices and classes, and the rests, stand. -/
def cutWant (n m p q : Nat) (r : Int) : Int :=
  if n < m then -1 else if m < n then 1 else if p < q then -1 else if q < p then 1 else if p = 9 then r else 0

theorem cut_pre (a b : List UInt8) (hk : com a b < 8) (ha : com a b = a.length) (hb : a.length < b.length) (r : Int) :
    cutWant (slNum a 8) (slNum b 8) (min a.length 9) (min b.length 9) r = -1 ∧ cutWant (slNum b 8) (slNum a 8) (min b.length 9) (min a.length 9) r = 1 := by
  have hle : slNum a 8 ≤ slNum b 8 := slNum_le_of a b 8 fun i hi => by
    by_cases h : i < com a b
    · rw [com_get a b i h]; exact Nat.le_refl _
    · rw [List.getElem?_eq_none (by omega : a.length ≤ i)]; simp
  unfold cutWant
  constructor
  · by_cases h : slNum a 8 < slNum b 8
    · rw [if_pos h]
    · rw [if_neg h, if_neg (by omega), if_pos (by omega)]
  · rw [if_neg (by omega)]
    by_cases h : slNum a 8 < slNum b 8
    · rw [if_pos h]
    · rw [if_neg h, if_neg (by omega), if_pos (by omega)]

theorem lt_of_pre (a b : List UInt8) (ha : com a b = a.length) (hb : a.length < b.length) : a < b := (lt_com a b).2 ⟨by omega, .inl ha⟩

theorem cut_cmp (a b : List UInt8) : compareBytes a b = cutWant (slNum a 8) (slNum b 8) (min a.length 9) (min b.length 9) (compareBytes (a.drop 8) (b.drop 8)) := by
  have h1 := com_le_l a b
  have h2 := com_le_r a b
  by_cases hk : com a b < 8
  · by_cases ha : com a b = a.length
    · by_cases hb : com a b = b.length
      · have e : a = b := by
          have := com_take a b (com a b) (Nat.le_refl _)
          rwa [List.take_of_length_le (by omega), List.take_of_length_le (by omega)] at this
        subst e
        rw [cmp_self]
        unfold cutWant
        simp
        omega
      · rw [(cut_pre a b hk ha (by omega) _).1, cmp_lt (lt_of_pre a b ha (by omega))]
    · by_cases hb : com a b = b.length
      · have hc := com_comm a b
        rw [(cut_pre b a (by omega) (by omega) (by omega) _).2, cmp_gt (lt_of_pre b a (by omega) (by omega))]
      · have hne := com_stop a b (by omega) (by omega)
        have he : ∀ i, i < com a b → a[i]?.getD 0 = b[i]?.getD 0 := fun i hi => by rw [com_get a b i hi]
        have hd : a[com a b]?.getD 0 ≠ b[com a b]?.getD 0 := by
          rw [List.getElem?_eq_getElem (by omega), List.getElem?_eq_getElem (by omega)] at hne ⊢
          simpa using hne
        rcases Nat.lt_trichotomy (a[com a b]?.getD 0).toNat (b[com a b]?.getD 0).toNat with h | h | h
        · have hn := slNum_lt_of a b _ hk he h
          unfold cutWant
          rw [if_pos hn, cmp_lt ((lt_com a b).2 ⟨by omega, .inr h⟩)]
        · exact absurd (UInt8.toNat_inj.1 h) hd
        · have hn := slNum_lt_of b a _ hk (fun i hi => (he i hi).symm) h
          unfold cutWant
          rw [if_neg (by omega), if_pos hn]
          exact cmp_gt ((lt_com b a).2 ⟨by rw [com_comm]; omega, .inr (by rw [com_comm]; exact h)⟩)
  · have hn : slNum a 8 = slNum b 8 := slNum_congr a b 8 fun i hi => by rw [com_get a b i (by omega)]
    rw [cmp_drop a b 8 (by omega)]
    unfold cutWant
    rw [if_neg (by omega), if_neg (by omega)]
    by_cases h : min a.length 9 < min b.length 9
    · rw [if_pos h, List.drop_of_length_le (by omega : a.length ≤ 8)]
      cases hd : b.drop 8 with
      | nil => have := congrArg List.length hd; simp at this; omega
      | cons => rfl
    · by_cases h' : min b.length 9 < min a.length 9
      · rw [if_neg h, if_pos h', List.drop_of_length_le (by omega : b.length ≤ 8)]
        cases hd : a.drop 8 with
        | nil => have := congrArg List.length hd; simp at this; omega
        | cons => rfl
      · rw [if_neg h, if_neg h']
        by_cases h9 : min a.length 9 = 9
        · rw [if_pos h9]
        · rw [if_neg h9, List.drop_of_length_le (by omega : a.length ≤ 8), List.drop_of_length_le (by omega : b.length ≤ 8)]
          rfl

theorem sliceN_zero (l : List UInt8) : sliceN l 0 = slNum l 8 := by
  unfold sliceN
  by_cases h : slIn l 0 = true
  · rw [if_pos h]; simp
  · rw [if_neg h]
    have : l = [] := by
      simp [slIn] at h
      exact h
    subst this
    rfl
theorem sliceC_zero (l : List UInt8) : sliceC l 0 = min l.length 9 := by
  unfold sliceC
  by_cases h : slIn l 0 = true
  · rw [if_pos h]; simp
  · rw [if_neg h]
    have : l = [] := by
      simp [slIn] at h
      exact h
    subst this
    rfl
end Go.Proofs.Ytiimchhbbjlegaa
