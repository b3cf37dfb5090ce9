/- The walk of the law KeysCut. -/
import Derived.Test.YtiimchhbbjlegaaKeysN
import Derived.Test.YtiimchhbbjlegaaKeysT
namespace Go.Proofs.Ytiimchhbbjlegaa
open Go.RowKit
open Go.Lib (compareBytes)
set_option linter.unusedVariables false

/-- One round's slice, and its text. -/
theorem cut_round (a S T : ByteArray) (i n c : Nat) (h8 : 8 * i < a.size) (hS : S.data.toList = a.data.toList.take (8 * i)) (hn : n = sliceN a.data.toList i) (hc : c = sliceC a.data.toList i) (hT : T = ⟨(unsl n c).toArray⟩) :
    c = min (a.size - 8 * i) 9 ∧ n < 18446744073709551616 ∧ (S ++ T).data.toList = a.data.toList.take (8 * i + min c 8) := by
  have hin : slIn a.data.toList (i : Int) = true := slIn_yes (by rw [ba_len]; omega)
  rw [sliceN, if_pos hin, Int.toNat_natCast] at hn
  rw [sliceC, if_pos hin, Int.toNat_natCast, ba_len] at hc
  subst hn
  refine ⟨hc, slNum_lt8 _, ?_⟩
  subst hT
  rw [unsl, if_pos (by omega), Int.toNat_natCast, unslB_slNum _ _ (by omega) (by rw [List.length_drop, ba_len]; omega)]
  rw [ByteArray.data_append, Array.toList_append, hS, List.take_add]

/-- How the two stand, told for the walk. -/
def CutCase (n m p q : Nat) (v r : Int) : Prop :=
  (n < m ∧ v = -1) ∨ (m < n ∧ v = 1) ∨ (n = m ∧ p < q ∧ v = -1) ∨ (n = m ∧ q < p ∧ v = 1) ∨ (n = m ∧ p = q ∧ p = 9 ∧ v = r) ∨ (n = m ∧ p = q ∧ p < 9 ∧ v = 0)
theorem cut_case (n m p q : Nat) (r : Int) (hp : p ≤ 9) : CutCase n m p q (cutWant n m p q r) r := by
  unfold CutCase cutWant
  rcases Nat.lt_trichotomy n m with h | h | h
  · rw [if_pos h]; exact .inl ⟨h, rfl⟩
  · rw [if_neg (by omega), if_neg (by omega)]
    rcases Nat.lt_trichotomy p q with k | k | k
    · rw [if_pos k]; exact .inr (.inr (.inl ⟨h, k, rfl⟩))
    · rw [if_neg (by omega), if_neg (by omega)]
      by_cases h9 : p = 9
      · rw [if_pos h9]; exact .inr (.inr (.inr (.inr (.inl ⟨h, k, h9, rfl⟩))))
      · rw [if_neg h9]; exact .inr (.inr (.inr (.inr (.inr ⟨h, k, by omega, rfl⟩))))
    · rw [if_neg (by omega), if_pos k]; exact .inr (.inr (.inr (.inl ⟨h, k, rfl⟩)))
  · rw [if_neg (by omega), if_pos h]; exact .inr (.inl ⟨h, rfl⟩)

theorem cut_more (a S : ByteArray) (i : Nat) (h : 8 * i + 9 ≤ a.size) (hS : S.data.toList = a.data.toList.take (8 * i)) :
    ∃ (n : Nat) (T : ByteArray), n = sliceN a.data.toList i ∧ 9 = sliceC a.data.toList i ∧ T = ⟨(unsl n (9 : Nat)).toArray⟩ ∧ n < 18446744073709551616 ∧ T.size ≤ 8 ∧ (S ++ T).data.toList = a.data.toList.take (8 * (i + 1)) := by
  obtain ⟨n, hn⟩ : ∃ n, n = sliceN a.data.toList i := ⟨_, rfl⟩
  obtain ⟨c, hc⟩ : ∃ c, c = sliceC a.data.toList i := ⟨_, rfl⟩
  obtain ⟨T, hT⟩ : ∃ T : ByteArray, T = ⟨(unsl n c).toArray⟩ := ⟨_, rfl⟩
  obtain ⟨e, hb, hST⟩ := cut_round a S T i n c (by omega) hS hn hc hT
  obtain rfl : c = 9 := by omega
  refine ⟨n, T, hn, hc, hT, hb, ?_, by rw [hST]; rfl⟩
  rw [hT, ← ba_len]
  simp [unsl, unslB_length]
theorem cut_last (a S : ByteArray) (i : Nat) (h : a.size < 8 * i + 9) (hi : 8 * i < a.size ∨ i = 0) (hS : S.data.toList = a.data.toList.take (8 * i)) :
    ∃ (n c : Nat) (T : ByteArray), n = sliceN a.data.toList i ∧ c = sliceC a.data.toList i ∧ T = ⟨(unsl n c).toArray⟩ ∧ n < 18446744073709551616 ∧ T.size ≤ 8 ∧ c ≤ 8 ∧ 8 * i + c = a.size ∧ ((S ++ T).toList == a.toList) = true := by
  obtain ⟨n, hn⟩ : ∃ n, n = sliceN a.data.toList i := ⟨_, rfl⟩
  obtain ⟨c, hc⟩ : ∃ c, c = sliceC a.data.toList i := ⟨_, rfl⟩
  obtain ⟨T, hT⟩ : ∃ T : ByteArray, T = ⟨(unsl n c).toArray⟩ := ⟨_, rfl⟩
  by_cases h8 : 8 * i < a.size
  · obtain ⟨e, hb, hST⟩ := cut_round a S T i n c h8 hS hn hc hT
    refine ⟨n, c, T, hn, hc, hT, hb, ?_, by omega, by omega, ?_⟩
    · rw [hT, ← ba_len]
      simp [unsl]
      split <;> simp [unslB_length]
      omega
    · rw [Lib.toList_data, Lib.toList_data, hST, List.take_of_length_le (by rw [ba_len]; omega)]
      simp
  · obtain rfl : i = 0 := by omega
    have hz : a.size = 0 := by omega
    have hl : a.data.toList = [] := List.length_eq_zero_iff.1 (by rw [ba_len]; exact hz)
    have hn0 : n = 0 := by rw [hn, hl]; rfl
    have hc0 : c = 0 := by rw [hc, hl]; rfl
    subst hn0
    subst hc0
    have hT0 : T = ⟨#[]⟩ := by rw [hT]; rfl
    subst hT0
    refine ⟨0, 0, ⟨#[]⟩, hn, hc, hT, by omega, Nat.zero_le 8, by omega, by omega, ?_⟩
    rw [Lib.toList_data, Lib.toList_data, ByteArray.data_append, Array.toList_append, hS, hl]
    rfl

def sliceOf (s : ByteArray) (i : Int) (n c : Nat) : Prop := ∀ w, Calls Try.prog 13 #[.string s, .int .i64 i] w fun e w' => e = .returned (.tuple #[.int .u64 n, .int .i64 c]) ∧ w = w'
def unsliceOf (n c : Nat) (T : ByteArray) : Prop := ∀ w, Calls Try.prog 15 #[.int .u64 n, .int .i64 c] w fun e w' => e = .returned (.string T) ∧ Below w.heap.size w w'
def compareOf (a b : ByteArray) (v : Int) : Prop := ∀ w, Calls Try.prog 17 #[.string a, .string b] w fun e w' => e = .returned (.int .i64 v) ∧ w = w'

set_option maxHeartbeats 4000000 in
theorem cut_core (a b : ByteArray) (n m p q : Nat) (v r : Int) (w : World) (h1 : a.size ≤ 1000) (h2 : b.size ≤ 1000) (hp : p ≤ 9) (hq : q ≤ 9) (hpa : p = 9 → 8 ≤ a.size) (hqb : q = 9 → 8 ≤ b.size)
    (hv : -1 ≤ v ∧ v ≤ 1) (hr : -1 ≤ r ∧ r ≤ 1)
    (Ha : Hid (sliceOf a 0 n p)) (Hb : Hid (sliceOf b 0 m q)) (Hv : Hid (compareOf a b v)) (Hr : Hid (compareOf (a.extract 8 a.size) (b.extract 8 b.size) r)) (HC : Hid (CutCase n m p q v r)) :
    Calls Try.prog 5 #[.string a, .string b] w fun e w' => e = .returned (.bool true) ∧ Below w.heap.size w w' := by
  go_enter Try.func5, Try.ntmps5
  go_wp2_with (go_at_call 11; refine (awake_any _).mono ?_; rintro e w' ⟨rfl, rfl⟩)
  go_loopw [5, 6] (fun s i wr => ∃ (S : ByteArray) (k : Nat), S.data.toList = a.data.toList.take (8 * k) ∧ (k = 0 ∨ 8 * k < a.size) ∧ s = .string S ∧ i = .int .i64 k ∧ Below w.heap.size w wr) (fun _ i _ => a.size + 1 - (intOf i).toNat)
  case atStart => exact ⟨⟨#[]⟩, 0, by simp, .inl rfl, rfl, rfl, Below.refl _ _⟩
  case round =>
    obtain ⟨S, k, hS, hk, rfl, rfl, hbel⟩ := hrel
    have hSz : S.size ≤ 1000 := by rw [← ba_len, hS, List.length_take, ba_len]; omega
    by_cases h9 : 8 * k + 9 ≤ a.size
    · obtain ⟨n1, T, hn1, hc1, hT, hnb, hTs, hST⟩ := cut_more a S k h9 hS
      have Hs : Hid (sliceOf a k n1 9) := Lib.hid fun w => by rw [hn1]; have := slice_any a k w (by omega); rwa [← hc1] at this
      have Hu : Hid (unsliceOf n1 9 T) := Lib.hid fun w => by rw [hT]; exact unslice_any n1 (9 : Nat) w hnb
      have HS := Lib.hid hST
      clear hn1 hc1 hT hST hS
      go_wp2_with fail
      refine (Hs.out _).mono ?_
      rintro e w' ⟨rfl, rfl⟩
      go_wp2_with fail
      refine (Hu.out _).mono ?_
      rintro e w1 ⟨rfl, hb1⟩
      go_wp2
      go_roundw
      case rel => exact ⟨S ++ T, k + 1, HS.out, .inr (by omega), rfl, by go_num, hbel.trans (hb1.mono hbel.size)⟩
      case measure => simp [intOf]; omega
    · obtain ⟨n1, c1, T, hn1, hc1, hT, hnb, hTs, hc8, hsum, hST⟩ := cut_last a S k (by omega) (by omega) hS
      have Hs : Hid (sliceOf a k n1 c1) := Lib.hid fun w => by rw [hn1, hc1]; exact slice_any a k w (by omega)
      have Hu : Hid (unsliceOf n1 c1 T) := Lib.hid fun w => by rw [hT]; exact unslice_any n1 c1 w hnb
      have hk1 : 8 * k ≤ a.size := by omega
      have hge : a.size ≤ 8 * k + c1 := by omega
      clear hn1 hc1 hT hS hsum hk
      go_wp2_with fail
      refine (Hs.out _).mono ?_
      rintro e w' ⟨rfl, rfl⟩
      go_wp2_with fail
      refine (Hu.out _).mono ?_
      rintro e w1 ⟨rfl, hb1⟩
      go_wp2_with fail
      refine (Ha.out _).mono ?_
      rintro e w' ⟨rfl, rfl⟩
      go_wp2_with fail
      refine (Hb.out _).mono ?_
      rintro e w' ⟨rfl, rfl⟩
      rcases HC.out with ⟨x, rfl⟩ | ⟨x, rfl⟩ | ⟨rfl, x, rfl⟩ | ⟨rfl, x, rfl⟩ | ⟨rfl, rfl, rfl, rfl⟩ | ⟨rfl, rfl, x, rfl⟩
      iterate 4
        · go_wp2_with fail
          refine (Hv.out _).mono ?_
          rintro e w' ⟨rfl, rfl⟩
          go_wp2
          go_ret
          exact ⟨rfl, hbel.trans (hb1.mono hbel.size)⟩
      · have ha8 := hpa rfl
        have hb8 := hqb rfl
        go_wp2_with fail
        go_quiet ((go_at_call 17; exact (Hr.out _).mono fun _ _ ⟨he, hw⟩ => ⟨he, _, hw.symm⟩))
        go_wp2_with fail
        refine (Hv.out _).mono ?_
        rintro e w' ⟨rfl, rfl⟩
        go_wp2
        go_ret
        exact ⟨rfl, below_drewN (hbel.trans (hb1.mono hbel.size)) _⟩
      · go_wp2_with fail
        refine (Hv.out _).mono ?_
        rintro e w' ⟨rfl, rfl⟩
        go_wp2
        go_ret
        exact ⟨rfl, hbel.trans (hb1.mono hbel.size)⟩

theorem keysCut_walk (a b : ByteArray) (ra : a.size ≤ 140737488351232) (rb : b.size ≤ 140737488351232) (w : World) :
    Calls Try.prog 5 #[.string a, .string b] w fun e w' => e = .returned (.bool true) ∧ Below w.heap.size w w' := by
  rcases (show 1000 < a.size ∨ (a.size ≤ 1000 ∧ 1000 < b.size) ∨ (a.size ≤ 1000 ∧ b.size ≤ 1000) from by omega) with h1 | ⟨h1, h2⟩ | ⟨h1, h2⟩
  iterate 2
    · go_enter Try.func5, Try.ntmps5
      go_wp2_with (go_at_call 11; refine (awake_any _).mono ?_; rintro e w' ⟨rfl, rfl⟩)
      go_ret
      exact ⟨rfl, Below.refl _ _⟩
  have hsl : ∀ s : ByteArray, s.size ≤ 1000 → sliceOf s 0 (slNum s.data.toList 8) (min s.data.toList.length 9) := fun s hs w => by
    have := slice_any s 0 w (by omega)
    rwa [sliceN_zero, sliceC_zero] at this
  have hr8 : ∀ s : ByteArray, (s.extract 8 s.size).data.toList = s.data.toList.drop 8 := fun s => by
    rw [Lib.extract_data, List.take_of_length_le (by simp)]
  have hcut := cut_cmp a.data.toList b.data.toList
  have hb1 : ∀ x y : List UInt8, -1 ≤ compareBytes x y ∧ compareBytes x y ≤ 1 := fun x y => by rw [cmp_eq_if]; split <;> (try split) <;> omega
  exact cut_core a b _ _ _ _ (compareBytes a.data.toList b.data.toList) (compareBytes (a.data.toList.drop 8) (b.data.toList.drop 8)) w h1 h2 (by omega) (by omega) (by rw [ba_len]; omega) (by rw [ba_len]; omega) (hb1 _ _) (hb1 _ _)
    (Lib.hid (hsl a h1)) (Lib.hid (hsl b h2)) (Lib.hid (compare_at a b _ rfl)) (Lib.hid (compare_at _ _ _ (by rw [hr8, hr8]))) (Lib.hid (by rw [hcut]; exact cut_case _ _ _ _ _ (by omega)))
end Go.Proofs.Ytiimchhbbjlegaa
