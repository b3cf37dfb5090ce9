/- The contracts of slices of layer 1 (keys) and of the document's own: Slice, Unslice. -/
import Derived.Test.YtiimchhbbjlegaaKeysC
import Derived.PlainAid
set_option linter.unusedVariables false
set_option linter.unusedSimpArgs false
namespace Go.Proofs.Ytiimchhbbjlegaa
open Go.RowKit

theorem ext_get (s : ByteArray) (a q : Nat) (h : q < (s.extract a s.size).size) : (s.data.toList.drop a)[q]?.getD 0 = (s.extract a s.size)[q] := by
  have hz : (s.extract a s.size).size = s.size - a := by simp [ByteArray.size_extract]
  have e : (s.extract a s.size)[q] = s[a + q]'(by omega) := by simp [ByteArray.getElem_extract]
  rw [e, List.getElem?_drop, ba_get _ _ (by omega)]
  rfl

set_option maxHeartbeats 400000 in
theorem slice_no (s : ByteArray) (i : Int) (w : World) (hs : s.size ≤ 140737488351232) (hi : i < 0 ∨ s.size ≤ 8 * i) :
    Calls Try.prog 13 #[.string s, .int .i64 i] w fun e w' => e = .returned (.tuple #[.int .u64 0, .int .i64 0]) ∧ w = w' := by
  rcases (show i < 0 ∨ (0 ≤ i ∧ s.size / 8 < i) ∨ (0 ≤ i ∧ i ≤ s.size / 8 ∧ s.size ≤ 8 * i) from by omega) with h | ⟨h, k⟩ | ⟨h, k, m⟩
  all_goals
    clear hi
    go_enter Try.func13, Try.ntmps13
    go_wp2
    go_ret2
    exact ⟨rfl, rfl⟩

set_option maxHeartbeats 400000 in
theorem slice_yes (s : ByteArray) (i : Nat) (w : World) (hs : s.size ≤ 140737488351232) (hi : 8 * i < s.size) :
    Calls Try.prog 13 #[.string s, .int .i64 i] w fun e w' => e = .returned (.tuple #[.int .u64 (slNum (s.data.toList.drop (8 * i)) 8), .int .i64 (min (s.size - 8 * i) 9 : Nat)]) ∧ w = w' := by
  go_enter Try.func13, Try.ntmps13
  go_wp2
  go_loop [4, 6, 27] (fun n j k => ∃ (q : Nat), q ≤ 8 ∧ k = .int .i64 q ∧ n = .int .u64 (slNum (s.data.toList.drop (8 * i)) q)) (fun _ _ k => 8 - (intOf k).toNat)
  case atStart => exact ⟨0, by omega, rfl, rfl⟩
  case round =>
    obtain ⟨q, hq, rfl, rfl⟩ := hrel
    by_cases hq8 : q < 8
    · have hx := slNum_lt7 (s.data.toList.drop (8 * i)) q hq8
      by_cases hk : 8 * i + q < s.size
      · have HE := Lib.hid (ext_get s (8 * i) q (by simp [ByteArray.size_extract]; omega))
        go_wp2
        go_round
        case rel =>
          refine ⟨q + 1, by omega, by go_num, ?_⟩
          have hc : i * 8 = 8 * i := by omega
          rw [or_step _ _ hx (UInt8.toNat_lt _), slNum, HE.out]
          simp only [hc]
        case measure => simp [intOf]; omega
      · have HE : Hid ((s.data.toList.drop (8 * i))[q]?.getD 0 = 0) := by
          have : (s.data.toList.drop (8 * i))[q]? = none := by rw [List.getElem?_eq_none]; simp; omega
          exact Lib.hid (by rw [this]; rfl)
        go_wp2
        go_round
        case rel =>
          refine ⟨q + 1, by omega, by go_num, ?_⟩
          rw [slNum, HE.out]
          simp
        case measure => simp [intOf]; omega
    · obtain rfl : q = 8 := by omega
      have hc : i * 8 = 8 * i := by omega
      rcases (show (s.size - 8 * i ≤ 9) ∨ (9 < s.size - 8 * i) from by omega) with h9 | h9
      · go_wp2
        go_ret2
        exact ⟨rfl, rfl⟩
      · have HE : Hid (min (s.size - 8 * i) 9 = 9) := Lib.hid (by omega)
        go_wp2
        rw [HE.out]
        go_ret2
        exact ⟨rfl, rfl⟩

set_option maxHeartbeats 400000 in
theorem rslice_no (s : ByteArray) (i : Int) (w : World) (hs : s.size ≤ 140737488351232) (hi : i < 0 ∨ s.size ≤ 8 * i) :
    Calls Try.prog 14 #[.string s, .int .i64 i] w fun e w' => e = .returned (.tuple #[.int .u64 0, .int .i64 0]) ∧ w = w' := by
  rcases (show i < 0 ∨ (0 ≤ i ∧ s.size < i) ∨ (0 ≤ i ∧ i ≤ s.size ∧ s.size ≤ 8 * i) from by omega) with h | ⟨h, k⟩ | ⟨h, k, m⟩
  all_goals
    clear hi
    go_enter Try.func14, Try.ntmps14
    go_wp2
    go_ret2
    exact ⟨rfl, rfl⟩

theorem drop_get (s : ByteArray) (a q : Nat) (h : a + q < s.size) : (s.data.toList.drop a)[q]?.getD 0 = s[a + q] := by
  rw [List.getElem?_drop, ba_get _ _ h]
  rfl

theorem u64_byte (b : UInt8) : IntKind.u64.wrap (b.toNat : Int) = (b.toNat : Int) := by
  have := b.toNat_lt
  rw [IntKind.wrap_u64]; omega

set_option maxHeartbeats 400000 in
theorem rslice_yes (s : ByteArray) (i : Nat) (w : World) (hs : s.size ≤ 140737488351232) (hi : 8 * i < s.size) :
    Calls Try.prog 14 #[.string s, .int .i64 i] w fun e w' => e = .returned (.tuple #[.int .u64 (slNum (s.data.toList.drop (8 * i)) 8), .int .i64 (min (s.size - 8 * i) 9 : Nat)]) ∧ w = w' := by
  have d1 : decide ((i : Int) < 0) = false := by simp
  have d2 : decide (s.size < i) = false := by simp; omega
  have d3 : decide ((s.size : Int) ≤ 8 * (i : Int)) = false := by simp; omega
  go_enter Try.func14, Try.ntmps14
  go_wp2
  go_loop [6, 7] (fun n k => ∃ (q : Nat), q ≤ 8 ∧ k = .int .i64 ((8 * i + q : Nat) : Int) ∧ n = .int .u64 (slNum (s.data.toList.drop (8 * i)) q)) (fun _ k => 8 * i + 8 - (intOf k).toNat)
  case atStart => exact ⟨0, by omega, by go_num, rfl⟩
  case round =>
    obtain ⟨q, hq, rfl, rfl⟩ := hrel
    by_cases hq8 : q < 8
    · have hx := slNum_lt7 (s.data.toList.drop (8 * i)) q hq8
      by_cases hk : 8 * i + q < s.size
      · have HE := Lib.hid (drop_get s (8 * i) q hk)
        go_wp2
        go_round
        case rel =>
          refine ⟨q + 1, by omega, by go_num, ?_⟩
          have hb := (s[8 * i + q]).toNat_lt
          rw [slNum, HE.out, u64_byte, IntKind.wrap_u64]
          congr 1
          omega
        case measure => simp [intOf]; omega
      · have HE : Hid ((s.data.toList.drop (8 * i))[q]?.getD 0 = 0) := by
          have : (s.data.toList.drop (8 * i))[q]? = none := by rw [List.getElem?_eq_none]; simp; omega
          exact Lib.hid (by rw [this]; rfl)
        go_wp2
        go_round
        case rel =>
          refine ⟨q + 1, by omega, by go_num, ?_⟩
          rw [slNum, HE.out]
          simp
        case measure => simp [intOf]; omega
    · obtain rfl : q = 8 := by omega
      rcases (show (s.size - 8 * i ≤ 9) ∨ (9 < s.size - 8 * i) from by omega) with h9 | h9
      · have HE : Hid ((s.size : Int) - 8 * (i : Int) = ((min (s.size - 8 * i) 9 : Nat) : Int)) := Lib.hid (by omega)
        go_wp2
        go_ret2
        exact ⟨by simp; omega, rfl⟩
      · have HE : Hid (min (s.size - 8 * i) 9 = 9) := Lib.hid (by omega)
        go_wp2
        rw [HE.out]
        go_ret2
        exact ⟨rfl, rfl⟩

/-- Slice: whatever text and number. -/
theorem slice_any (s : ByteArray) (i : Int) (w : World) (hs : s.size ≤ 140737488351232) :
    Calls Try.prog 13 #[.string s, .int .i64 i] w fun e w' => e = .returned (.tuple #[.int .u64 (sliceN s.data.toList i), .int .i64 (sliceC s.data.toList i)]) ∧ w = w' := by
  by_cases h : 0 ≤ i ∧ 8 * i < s.size
  · obtain ⟨k, rfl⟩ : ∃ k : Nat, i = k := ⟨i.toNat, by omega⟩
    have hin : slIn s.data.toList (k : Int) = true := slIn_yes (by rw [ba_len]; exact h)
    rw [sliceN, sliceC, if_pos hin, if_pos hin]
    simp only [ba_len, Int.toNat_natCast]
    exact slice_yes s k w hs (by omega)
  · have hin : slIn s.data.toList i = false := slIn_no (by rw [ba_len]; omega)
    rw [sliceN, sliceC, if_neg (by rw [hin]; decide), if_neg (by rw [hin]; decide)]
    exact slice_no s i w hs (by omega)
theorem rslice_any (s : ByteArray) (i : Int) (w : World) (hs : s.size ≤ 140737488351232) :
    Calls Try.prog 14 #[.string s, .int .i64 i] w fun e w' => e = .returned (.tuple #[.int .u64 (sliceN s.data.toList i), .int .i64 (sliceC s.data.toList i)]) ∧ w = w' := by
  by_cases h : 0 ≤ i ∧ 8 * i < s.size
  · obtain ⟨k, rfl⟩ : ∃ k : Nat, i = k := ⟨i.toNat, by omega⟩
    have hin : slIn s.data.toList (k : Int) = true := slIn_yes (by rw [ba_len]; exact h)
    rw [sliceN, sliceC, if_pos hin, if_pos hin]
    simp only [ba_len, Int.toNat_natCast]
    exact rslice_yes s k w hs (by omega)
  · have hin : slIn s.data.toList i = false := slIn_no (by rw [ba_len]; omega)
    rw [sliceN, sliceC, if_neg (by rw [hin]; decide), if_neg (by rw [hin]; decide)]
    exact rslice_no s i w hs (by omega)
end Go.Proofs.Ytiimchhbbjlegaa
