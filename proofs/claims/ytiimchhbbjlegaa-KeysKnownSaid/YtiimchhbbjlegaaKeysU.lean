/- The contracts of Unslice, of layer 1 (keys) and of the document's own. -/
import Derived.Test.YtiimchhbbjlegaaKeysS
import Derived.PlainAid
import Derived.Deep.OwnRows
set_option linter.unusedVariables false
set_option linter.unusedSimpArgs false
namespace Go.Proofs.Ytiimchhbbjlegaa
open Go.RowKit Go.Deep
set_option maxRecDepth 8000
set_option linter.unusedVariables false

theorem Try.infoU8 : (Try.prog.info? 5).map (fun i => (i.zero, i.size, i.bytes)) = some (some (.int .u8 0), 1, 1) := by kernel_rfl
set_option maxHeartbeats 400000 in
theorem unslice_no (n c : Int) (w : World) (hc : c < 1 ∨ 9 < c) :
    Calls Try.prog 15 #[.int .u64 n, .int .i64 c] w fun e w' => e = .returned (.string ⟨#[]⟩) ∧ w = w' := by
  rcases hc with h | h
  all_goals
    go_enter Try.func15, Try.ntmps15
    go_wp2
    go_ret
    exact ⟨rfl, rfl⟩

theorem ubRow_cell (w : World) (n c k j : Nat) (t : TypeId) (hj : j < c) : (w.alloc (.cells (ubRow n c k) t)).cell? ⟨w.heap.size, j, none⟩ = some (if j < k then Value.int .u8 (ub n j).toNat else .int .u8 0) := by
  rw [← ubRow_get n c k j hj]; simp [go_sem]

theorem ubRow_conv (w : World) (n c cap : Nat) (src dst e : TypeId) (hs : Try.prog.underlying src = some (.slice e)) (he : Try.prog.underlying e = some (.int .u8)) (hd : Try.prog.underlying dst = some .string) :
    (convert src dst (.slice (some ⟨w.heap.size, 0, none⟩) c cap)).run Try.prog (w.alloc (.cells (ubRow n c c) e)) = .ok (.string ⟨(unslB n c).toArray⟩) (w.alloc (.cells (ubRow n c c) e)) := by
  refine conv_bytes _ src dst e _ (unslB n c) c cap (unslB_length n c) hs he hd fun j b hb => ?_
  have hj : j < c := by rcases Nat.lt_or_ge j c with h | h; exact h; rw [List.getElem?_eq_none (by rw [unslB_length]; omega)] at hb; cases hb
  rw [unslB_get _ _ _ hj] at hb
  obtain rfl := Option.some.inj hb
  have := ubRow_cell w n c c j e hj
  rw [if_pos hj] at this
  have hadd : (⟨w.heap.size, 0, none⟩ : Addr).add j = ⟨w.heap.size, j, none⟩ := by unfold Addr.add; split <;> simp_all
  rw [hadd]
  exact this

set_option maxHeartbeats 400000 in
theorem unslice_yes (n c d : Nat) (w : World) (hn : n < 18446744073709551616) (h1 : 1 ≤ c) (h9 : c ≤ 9) (hd : (c < 8 ∧ d = c) ∨ (8 ≤ c ∧ d = 8)) :
    Calls Try.prog 15 #[.int .u64 n, .int .i64 c] w fun e w' => e = .returned (.string ⟨(unslB n d).toArray⟩) ∧ Below w.heap.size w w' := by
  have hmk := run_make_row' (P := Try.prog) 38 5 (.int .u8 0) 1 Try.underlying38 Try.infoU8 rfl .i64 .i64 d (by omega) (by omega)
  rw [ubRow_zero n d] at hmk
  have hcv := ubRow_conv w n d d 38 9 5 Try.underlying38 Try.underlying5 Try.underlying9
  have d1 : decide ((c : Int) < 1) = false := by simp; omega
  have d2 : decide (9 < (c : Int)) = false := by simp; omega
  obtain ⟨D, hD⟩ : ∃ D : Int, D = d := ⟨_, rfl⟩
  rw [← hD] at hmk
  rcases hd with ⟨h8, rfl⟩ | ⟨h8, rfl⟩
  · subst hD
    go_enter Try.func15, Try.ntmps15
    go_wp2
    go_loopw [18] (fun i wr => ∃ k : Nat, k ≤ d ∧ i = .int .i64 k ∧ wr = w.alloc (.cells (ubRow n d k) 5)) (fun i _ => d - (intOf i).toNat)
    case atStart => exact ⟨0, by omega, rfl, rfl⟩
    case round =>
      obtain ⟨k, hk, rfl, rfl⟩ := hrel
      by_cases hlt : k < d
      · have hv := ubRow_cell w n d k k 5 hlt
        rw [if_neg (by omega)] at hv
        go_wp2
        go_roundw
        case rel => exact ⟨k + 1, by omega, by go_num, by rw [← ub_cast, ubRow_set]⟩
        case measure => simp [intOf]; omega
      · obtain rfl : k = d := by omega
        go_wp2
        go_ret
        exact ⟨rfl, (Below.refl _ _).alloc (Nat.le_refl _) _⟩
  · obtain rfl : D = 8 := hD
    obtain rfl | rfl : c = 8 ∨ c = 9 := by omega
    all_goals
      go_enter Try.func15, Try.ntmps15
      go_wp2
      go_loopw [18] (fun i wr => ∃ k : Nat, k ≤ 8 ∧ i = .int .i64 k ∧ wr = w.alloc (.cells (ubRow n 8 k) 5)) (fun i _ => 8 - (intOf i).toNat)
      case atStart => exact ⟨0, by omega, rfl, rfl⟩
      case round =>
        obtain ⟨k, hk, rfl, rfl⟩ := hrel
        by_cases hlt : k < 8
        · have hv := ubRow_cell w n 8 k k 5 hlt
          rw [if_neg (by omega)] at hv
          go_wp2
          go_roundw
          case rel => exact ⟨k + 1, by omega, by go_num, by rw [← ub_cast, ubRow_set]⟩
          case measure => simp [intOf]; omega
        · obtain rfl : k = 8 := by omega
          go_wp2
          go_ret
          exact ⟨rfl, (Below.refl _ _).alloc (Nat.le_refl _) _⟩

/-- A row of eight bytes of which the last m have been written. -/
def rbRow (n m : Nat) : Array Value := ((List.range 8).map fun j => if 8 - m ≤ j then Value.int .u8 (ub n j).toNat else .int .u8 0).toArray
theorem rbRow_size (n m : Nat) : (rbRow n m).size = 8 := by simp [rbRow]
theorem rbRow_zero (n : Nat) : madeCells #[Value.int .u8 0] 8 = rbRow n 0 := by
  apply Array.toList_inj.1
  rw [toList_madeCells_one, rbRow]
  rfl
theorem rbRow_get (n m j : Nat) (h : j < 8) : (rbRow n m)[j]? = some (if 8 - m ≤ j then Value.int .u8 (ub n j).toNat else .int .u8 0) := by
  simp [rbRow, h]
theorem rbRow_set (n m k : Nat) (hk : k + m = 7) : (rbRow n m).setIfInBounds k (.int .u8 (ub n k).toNat) = rbRow n (m + 1) := by
  apply Array.ext_getElem?
  intro i
  rw [Array.getElem?_setIfInBounds, rbRow_size]
  by_cases hi : i < 8
  · rw [rbRow_get _ _ _ hi, rbRow_get _ _ _ hi]
    by_cases e : k = i
    · subst e; rw [if_pos rfl, if_pos hi, if_pos (by omega)]
    · rw [if_neg e]
      by_cases h : 8 - m ≤ i
      · rw [if_pos h, if_pos (by omega)]
      · rw [if_neg h, if_neg (by omega)]
  · have h1 : (rbRow n m)[i]? = none := by rw [Array.getElem?_eq_none]; rw [rbRow_size]; omega
    have h2 : (rbRow n (m + 1))[i]? = none := by rw [Array.getElem?_eq_none]; rw [rbRow_size]; omega
    rw [h1, h2]
    split
    · rw [if_neg (by omega)]
    · rfl
theorem rbRow_cell (w : World) (n m j : Nat) (t : TypeId) (hj : j < 8) : (w.alloc (.cells (rbRow n m) t)).cell? ⟨w.heap.size, j, none⟩ = some (if 8 - m ≤ j then Value.int .u8 (ub n j).toNat else .int .u8 0) := by
  rw [← rbRow_get n m j hj]; simp [go_sem]
theorem rbRow_conv (w : World) (n c cap : Nat) (hc : c ≤ 8) (src dst e : TypeId) (hs : Try.prog.underlying src = some (.slice e)) (he : Try.prog.underlying e = some (.int .u8)) (hd : Try.prog.underlying dst = some .string) :
    (convert src dst (.slice (some ⟨w.heap.size, 0, none⟩) c cap)).run Try.prog (w.alloc (.cells (rbRow n 8) e)) = .ok (.string ⟨(unslB n c).toArray⟩) (w.alloc (.cells (rbRow n 8) e)) := by
  refine conv_bytes _ src dst e _ (unslB n c) c cap (unslB_length n c) hs he hd fun j b hb => ?_
  have hj : j < c := by rcases Nat.lt_or_ge j c with h | h; exact h; rw [List.getElem?_eq_none (by rw [unslB_length]; omega)] at hb; cases hb
  rw [unslB_get _ _ _ hj] at hb
  obtain rfl := Option.some.inj hb
  have := rbRow_cell w n 8 j e (by omega)
  rw [if_pos (by omega)] at this
  have hadd : (⟨w.heap.size, 0, none⟩ : Addr).add j = ⟨w.heap.size, j, none⟩ := by unfold Addr.add; split <;> simp_all
  rw [hadd]
  exact this
theorem ub_at (n m k : Nat) (h : k + m = 7) : ((ub n k).toNat : Int) = ((n / 256 ^ m : Nat) : Int) % 256 := by
  rw [ub_toNat, show 8 * (7 - k) = 8 * m from by omega, Nat.pow_mul]
  simp
theorem rn_next (n m : Nat) : ((n / 256 ^ (m + 1) : Nat) : Int) = ((n / 256 ^ m : Nat) : Int) / 256 := by
  rw [Nat.pow_succ, ← Nat.div_div_eq_div_mul]; simp

set_option maxHeartbeats 400000 in
theorem runslice_no (n c : Int) (w : World) (hc : c < 1 ∨ 9 < c) :
    Calls Try.prog 16 #[.int .u64 n, .int .i64 c] w fun e w' => e = .returned (.string ⟨#[]⟩) ∧ w = w' := by
  rcases hc with h | h
  all_goals
    go_enter Try.func16, Try.ntmps16
    go_wp2
    go_ret
    exact ⟨rfl, rfl⟩

set_option maxHeartbeats 400000 in
theorem runslice_yes (n c d : Nat) (w : World) (hn : n < 18446744073709551616) (h1 : 1 ≤ c) (h9 : c ≤ 9) (hd : (c ≤ 8 ∧ d = c) ∨ (c = 9 ∧ d = 8)) :
    Calls Try.prog 16 #[.int .u64 n, .int .i64 c] w fun e w' => e = .returned (.string ⟨(unslB n d).toArray⟩) ∧ Below w.heap.size w w' := by
  have hmk : ∀ w, (Instr.makeSlice 38 (.int .i64 8) (.int .i64 8)).run Try.prog w = .ok (.slice (some ⟨w.heap.size, 0, none⟩) 8 8) (w.alloc (.cells (rbRow n 0) 5)) := by
    have := run_make_row' (P := Try.prog) 38 5 (.int .u8 0) 1 Try.underlying38 Try.infoU8 rfl .i64 .i64 8 (by omega) (by omega)
    rw [rbRow_zero n] at this
    exact this
  have hcv := rbRow_conv w n d 8 (by omega) 38 9 5 Try.underlying38 Try.underlying5 Try.underlying9
  have d1 : decide ((c : Int) < 1) = false := by simp; omega
  have d2 : decide (9 < (c : Int)) = false := by simp; omega
  rcases hd with ⟨h8, rfl⟩ | ⟨rfl, rfl⟩
  all_goals
    go_enter Try.func16, Try.ntmps16
    go_wp2
    go_loopw [0, 6] (fun x i wr => ∃ m : Nat, m ≤ 8 ∧ i = .int .i64 (7 - (m : Int)) ∧ x = .int .u64 ((n / 256 ^ m : Nat) : Int) ∧ wr = w.alloc (.cells (rbRow n m) 5)) (fun _ i _ => (intOf i + 1).toNat)
    case atStart => exact ⟨0, by omega, rfl, by simp, rfl⟩
    case round =>
      obtain ⟨m, hm, rfl, rfl, rfl⟩ := hrel
      by_cases hlt : m < 8
      · obtain ⟨k, hk⟩ : ∃ k, k + m = 7 := ⟨7 - m, by omega⟩
        have hki : (7 : Int) - (m : Int) = (k : Int) := by omega
        rw [hki]
        have hv := rbRow_cell w n m k 5 (by omega)
        rw [if_neg (by omega)] at hv
        have hlk : k < 8 := by omega
        clear hki
        obtain ⟨X, hX⟩ : ∃ X, X = n / 256 ^ m := ⟨_, rfl⟩
        have hXb : X < 18446744073709551616 := by rw [hX]; exact Nat.lt_of_le_of_lt (Nat.div_le_self _ _) hn
        rw [← hX]
        have HX := Lib.hid hX
        clear hX
        go_wp2
        go_roundw
        case rel =>
          refine ⟨m + 1, by omega, by congr 1; omega, by rw [rn_next, HX.out], ?_⟩
          rw [← rbRow_set n m k hk, ub_at n m k hk, ← HX.out]
        case measure => simp [intOf]
      · obtain rfl : m = 8 := by omega
        go_wp2
        go_ret
        exact ⟨rfl, (Below.refl _ _).alloc (Nat.le_refl _) _⟩

/-- Unslice: whatever number and class. -/
theorem unslice_any (n : Nat) (c : Int) (w : World) (hn : n < 18446744073709551616) :
    Calls Try.prog 15 #[.int .u64 n, .int .i64 c] w fun e w' => e = .returned (.string ⟨(unsl n c).toArray⟩) ∧ Below w.heap.size w w' := by
  by_cases h : 1 ≤ c ∧ c ≤ 9
  · obtain ⟨k, rfl⟩ : ∃ k : Nat, c = k := ⟨c.toNat, by omega⟩
    rw [unsl, if_pos h]
    exact unslice_yes n k (min k 8) w hn (by omega) (by omega) (by omega)
  · rw [unsl, if_neg h]
    exact (unslice_no n c w (by omega)).mono fun e w' ⟨he, hw⟩ => ⟨he, hw ▸ Below.refl _ _⟩
theorem runslice_any (n : Nat) (c : Int) (w : World) (hn : n < 18446744073709551616) :
    Calls Try.prog 16 #[.int .u64 n, .int .i64 c] w fun e w' => e = .returned (.string ⟨(unsl n c).toArray⟩) ∧ Below w.heap.size w w' := by
  by_cases h : 1 ≤ c ∧ c ≤ 9
  · obtain ⟨k, rfl⟩ : ∃ k : Nat, c = k := ⟨c.toNat, by omega⟩
    rw [unsl, if_pos h]
    exact runslice_yes n k (min k 8) w hn (by omega) (by omega) (by omega)
  · rw [unsl, if_neg h]
    exact (runslice_no n c w (by omega)).mono fun e w' ⟨he, hw⟩ => ⟨he, hw ▸ Below.refl _ _⟩
end Go.Proofs.Ytiimchhbbjlegaa
