/- The contracts of perm.Insert, perm.Remove; 'awake'. -/
import Derived.Test.YtffeegpjnibdnaaPermV
set_option linter.unusedVariables false
set_option linter.unusedSimpArgs false
namespace Go.Proofs.Ytffeegpjnibdnaa
open Go.RowKit
set_option linter.unusedVariables false

/-- What Insert answers: the word, the slot. -/
def insW (p i : Nat) : Nat := wd (p % 16 + 1) (mv (slots p) (p % 16) i)
def remW (p i : Nat) : Nat := wd (p % 16 - 1) (mv (slots p) i (p % 16 - 1))

set_option maxHeartbeats 400000 in
theorem insert_no (p : Nat) (i : Int) (w : World) (hp : p < 18446744073709551616) (h : ¬ Rt (slots p) ∨ (15 ≤ p % 16 ∨ i < 0 ∨ (p % 16 : Nat) < i)) :
    Calls Try.prog 8 #[.int .u64 p, .int .i64 i] w fun e w' => e = .returned (.tuple #[.int .u64 p, .int .i64 (-1), .bool false]) ∧ w = w' := by
  obtain ⟨c, hc⟩ : ∃ c, c = p % 16 := ⟨_, rfl⟩
  have HL : Hid (∀ w, Calls Try.prog 15 #[.int .u64 p] w fun e w' => e = .returned (.int .i64 c) ∧ w = w') := Lib.hid fun w => by rw [hc]; exact len_any p w hp
  have hc16 : c < 16 := by omega
  rw [← hc] at h
  by_cases hr : Rt (slots p)
  · have HR : Hid (∀ w, Calls Try.prog 12 #[.int .u64 p] w fun e w' => e = .returned (.bool true) ∧ w = w') := Lib.hid fun w => by have := right_any p w hp; rwa [rt_yes hr] at this
    have h' : 15 ≤ c ∨ (c < 15 ∧ i < 0) ∨ (c < 15 ∧ 0 ≤ i ∧ (c : Int) < i) := by
      rcases h with h | h
      · exact absurd hr h
      · omega
    clear h hc hr
    rcases h' with h1 | ⟨h1, h2⟩ | ⟨h1, h2, h3⟩
    all_goals
      go_enter Try.func8, Try.ntmps8
      go_wp2_with fail
      refine (HL.out _).mono ?_
      rintro e w' ⟨rfl, rfl⟩
      go_wp2_with fail
      refine (HR.out _).mono ?_
      rintro e w' ⟨rfl, rfl⟩
      go_wp2
      go_ret3
      exact ⟨rfl, rfl⟩
  · have HR : Hid (∀ w, Calls Try.prog 12 #[.int .u64 p] w fun e w' => e = .returned (.bool false) ∧ w = w') := Lib.hid fun w => by have := right_any p w hp; rwa [rt_no hr] at this
    clear h hc hr
    go_enter Try.func8, Try.ntmps8
    go_wp2_with fail
    refine (HL.out _).mono ?_
    rintro e w' ⟨rfl, rfl⟩
    go_wp2_with fail
    refine (HR.out _).mono ?_
    rintro e w' ⟨rfl, rfl⟩
    go_wp2
    go_ret3
    exact ⟨rfl, rfl⟩

theorem wd_word_lt {p a b c : Nat} (hc : c < 16) (ha : a < 15) (hb : b < 15) : wd c (mv (slots p) a b) < 18446744073709551616 :=
  wd_lt hc (by rw [mv_length (by rw [slots_length]; exact ha) (by rw [slots_length]; exact hb), slots_length]) (mv_below (by rw [slots_length]; exact ha) (slots_lt p))

set_option maxHeartbeats 400000 in
theorem insert_yes (p i : Nat) (w : World) (hp : p < 18446744073709551616) (hr : Rt (slots p)) (hn : p % 16 < 15) (hi : i ≤ p % 16) :
    Calls Try.prog 8 #[.int .u64 p, .int .i64 i] w fun e w' => e = .returned (.tuple #[.int .u64 (insW p i), .int .i64 (nib p (p % 16)), .bool true]) ∧ Below w.heap.size w w' := by
  obtain ⟨c, hc⟩ : ∃ c, c = p % 16 := ⟨_, rfl⟩
  unfold insW
  rw [← hc] at hn hi ⊢
  obtain ⟨W, hW⟩ : ∃ W, W = wd c (mv (slots p) c i) := ⟨_, rfl⟩
  have hWb : W < 18446744073709551615 := by
    have h2 := wd_word_lt (p := p) (a := c) (b := i) (c := c + 1) (by omega) hn (by omega)
    rw [← wd_add, ← hW] at h2
    omega
  have HL : Hid (∀ w, Calls Try.prog 15 #[.int .u64 p] w fun e w' => e = .returned (.int .i64 c) ∧ w = w') := Lib.hid fun w => by rw [hc]; exact len_any p w hp
  have HR : Hid (∀ w, Calls Try.prog 12 #[.int .u64 p] w fun e w' => e = .returned (.bool true) ∧ w = w') := Lib.hid fun w => by have := right_any p w hp; rwa [rt_yes hr] at this
  have HM : Hid (∀ w, Calls Try.prog 21 #[.int .u64 p, .int .i64 c, .int .i64 i] w fun e w' => e = .returned (.int .u64 W) ∧ Below w.heap.size w w') := Lib.hid fun w => by rw [hW]; have := move_any p c i w hp hn (by omega); rwa [← hc] at this
  have HA := Lib.hid (fun w => at_in p c w hp hn)
  have HW := Lib.hid (show ((W : Int) + 1) = ((wd (c + 1) (mv (slots p) c i) : Nat) : Int) by rw [← wd_add, ← hW]; simp)
  clear hc hW hr
  go_enter Try.func8, Try.ntmps8
  go_wp2_with fail
  refine (HL.out _).mono ?_
  rintro e w' ⟨rfl, rfl⟩
  go_wp2_with fail
  refine (HR.out _).mono ?_
  rintro e w' ⟨rfl, rfl⟩
  go_wp2_with fail
  refine (HM.out _).mono ?_
  rintro e w1 ⟨rfl, hb1⟩
  go_wp2_with fail
  refine (HA.out _).mono ?_
  rintro e w' ⟨rfl, rfl⟩
  go_wp2
  rw [HW.out]
  go_ret3
  exact ⟨rfl, hb1⟩

set_option maxHeartbeats 400000 in
theorem remove_no (p : Nat) (i : Int) (w : World) (hp : p < 18446744073709551616) (h : ¬ Rt (slots p) ∨ (i < 0 ∨ (p % 16 : Nat) ≤ i)) :
    Calls Try.prog 10 #[.int .u64 p, .int .i64 i] w fun e w' => e = .returned (.tuple #[.int .u64 p, .int .i64 (-1), .bool false]) ∧ w = w' := by
  obtain ⟨c, hc⟩ : ∃ c, c = p % 16 := ⟨_, rfl⟩
  have HL : Hid (∀ w, Calls Try.prog 15 #[.int .u64 p] w fun e w' => e = .returned (.int .i64 c) ∧ w = w') := Lib.hid fun w => by rw [hc]; exact len_any p w hp
  rw [← hc] at h
  by_cases hr : Rt (slots p)
  · have HR : Hid (∀ w, Calls Try.prog 12 #[.int .u64 p] w fun e w' => e = .returned (.bool true) ∧ w = w') := Lib.hid fun w => by have := right_any p w hp; rwa [rt_yes hr] at this
    have h' : i < 0 ∨ (0 ≤ i ∧ (c : Int) ≤ i) := by
      rcases h with h | h
      · exact absurd hr h
      · omega
    clear h hc hr
    rcases h' with h2 | ⟨h2, h3⟩
    all_goals
      go_enter Try.func10, Try.ntmps10
      go_wp2_with fail
      refine (HL.out _).mono ?_
      rintro e w' ⟨rfl, rfl⟩
      go_wp2_with fail
      refine (HR.out _).mono ?_
      rintro e w' ⟨rfl, rfl⟩
      go_wp2
      go_ret3
      exact ⟨rfl, rfl⟩
  · have HR : Hid (∀ w, Calls Try.prog 12 #[.int .u64 p] w fun e w' => e = .returned (.bool false) ∧ w = w') := Lib.hid fun w => by have := right_any p w hp; rwa [rt_no hr] at this
    clear h hc hr
    go_enter Try.func10, Try.ntmps10
    go_wp2_with fail
    refine (HL.out _).mono ?_
    rintro e w' ⟨rfl, rfl⟩
    go_wp2_with fail
    refine (HR.out _).mono ?_
    rintro e w' ⟨rfl, rfl⟩
    go_wp2
    go_ret3
    exact ⟨rfl, rfl⟩

set_option maxHeartbeats 400000 in
theorem remove_yes (p i : Nat) (w : World) (hp : p < 18446744073709551616) (hr : Rt (slots p)) (hi : i < p % 16) :
    Calls Try.prog 10 #[.int .u64 p, .int .i64 i] w fun e w' => e = .returned (.tuple #[.int .u64 (remW p i), .int .i64 (nib p i), .bool true]) ∧ Below w.heap.size w w' := by
  obtain ⟨c, hc⟩ : ∃ c, c = p % 16 - 1 := ⟨_, rfl⟩
  have hc' : p % 16 = c + 1 := by omega
  unfold remW
  rw [← hc]
  rw [hc'] at hi
  obtain ⟨W, hW⟩ : ∃ W, W = wd (c + 1) (mv (slots p) i c) := ⟨_, rfl⟩
  have hW1 : W = wd c (mv (slots p) i c) + 1 := by rw [hW, wd_add]
  have hWb : W < 18446744073709551616 := by rw [hW]; exact wd_word_lt (by omega) (by omega) (by omega)
  have hW0 : 1 ≤ W := by omega
  have HL : Hid (∀ w, Calls Try.prog 15 #[.int .u64 p] w fun e w' => e = .returned (.int .i64 ((c : Int) + 1)) ∧ w = w') := Lib.hid fun w => by have := len_any p w hp; rw [hc'] at this; simpa using this
  have HR : Hid (∀ w, Calls Try.prog 12 #[.int .u64 p] w fun e w' => e = .returned (.bool true) ∧ w = w') := Lib.hid fun w => by have := right_any p w hp; rwa [rt_yes hr] at this
  have HM : Hid (∀ w, Calls Try.prog 21 #[.int .u64 p, .int .i64 i, .int .i64 c] w fun e w' => e = .returned (.int .u64 W) ∧ Below w.heap.size w w') := Lib.hid fun w => by rw [hW]; have := move_any p i c w hp (by omega) (by omega); rwa [hc'] at this
  have HA := Lib.hid (fun w => at_in p i w hp (by omega))
  have HW := Lib.hid (show ((W : Int) - 1) = ((wd c (mv (slots p) i c) : Nat) : Int) by rw [hW1]; simp)
  have hc15 : c < 15 := by omega
  clear hc hc' hW hW1 hr
  go_enter Try.func10, Try.ntmps10
  go_wp2_with fail
  refine (HL.out _).mono ?_
  rintro e w' ⟨rfl, rfl⟩
  go_wp2_with fail
  refine (HR.out _).mono ?_
  rintro e w' ⟨rfl, rfl⟩
  go_wp2_with fail
  refine (HM.out _).mono ?_
  rintro e w1 ⟨rfl, hb1⟩
  go_wp2_with fail
  refine (HA.out _).mono ?_
  rintro e w' ⟨rfl, rfl⟩
  go_wp2
  rw [HW.out]
  go_ret3
  exact ⟨rfl, hb1⟩
end Go.Proofs.Ytffeegpjnibdnaa
