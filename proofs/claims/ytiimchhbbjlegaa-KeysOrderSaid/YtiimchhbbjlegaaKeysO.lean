/- The walk of the law KeysOrder. -/
import Derived.Test.YtiimchhbbjlegaaKeysB
namespace Go.Proofs.Ytiimchhbbjlegaa
open Go.RowKit
open Go.Lib (compareBytes)
set_option linter.unusedVariables false

set_option maxHeartbeats 2000000 in
theorem order_A (a b c U : ByteArray) (w : World) (h1 : a.size ≤ 10000) (h2 : b.size ≤ 10000) (h3 : c.size ≤ 10000) (HU : Hid (∀ w, Calls Try.prog 18 #[.string a] w fun e w' => e = .returned (.string U) ∧ w = w')) (Hau : Hid (∀ w, Calls Try.prog 17 #[.string a, .string U] w fun e w' => e = .returned (.int .i64 (-1)) ∧ w = w'))
    (X : ByteArray) (N : Nat) (v y u : Int) (H : ShortIn a b X N v) (v0 : -1 ≤ v) (v1 : v ≤ 0) (u0 : 0 ≤ u) (hle : X.size ≤ b.size) (Hba : Hid (∀ w, Calls Try.prog 17 #[.string b, .string a] w fun e w' => e = .returned (.int .i64 1) ∧ w = w')) (Hbc : Hid (∀ w, Calls Try.prog 17 #[.string b, .string c] w fun e w' => e = .returned (.int .i64 y) ∧ w = w')) (Hbu : Hid (∀ w, Calls Try.prog 17 #[.string b, .string U] w fun e w' => e = .returned (.int .i64 u) ∧ w = w')) (Hxm : Hid (∀ w, Calls Try.prog 12 #[.string X, .string b] w fun e w' => e = .returned (.int .i64 X.size) ∧ Still w w')) (g1 : ((N : Int) == (X.size : Int) - 1) = true) (g2 : decide (X.size ≤ b.size) = true) (g3 : (a.toList == b.toList) = false) (y0 : -1 ≤ y) (y1 : y ≤ 0) (Hac : Hid (∀ w, Calls Try.prog 17 #[.string a, .string c] w fun e w' => e = .returned (.int .i64 (-1)) ∧ w = w')) :
    Calls Try.prog 9 #[.string a, .string b, .string c] w fun e w' => e = .returned (.bool true) ∧ Below w.heap.size w w' := by
  go_enter Try.func9, Try.ntmps9
  go_wp2_with fail
  refine (awake_any _).mono ?_
  rintro e w' ⟨rfl, rfl⟩
  go_wp2_with fail
  refine (H.Hc.out _).mono ?_
  rintro e w' ⟨rfl, rfl⟩
  go_wp2_with fail
  refine (Hbc.out _).mono ?_
  rintro e w' ⟨rfl, rfl⟩
  go_wp2_with fail
  refine (Hba.out _).mono ?_
  rintro e w' ⟨rfl, rfl⟩
  go_wp2_with fail
  refine (Hac.out _).mono ?_
  rintro e w' ⟨rfl, rfl⟩
  go_wp2_with fail
  refine (HU.out _).mono ?_
  rintro e w' ⟨rfl, rfl⟩
  go_wp2_with fail
  refine (Hau.out _).mono ?_
  rintro e w' ⟨rfl, rfl⟩
  go_wp2_with fail
  refine (H.Hc.out _).mono ?_
  rintro e w' ⟨rfl, rfl⟩
  go_wp2_with fail
  refine (Hbu.out _).mono ?_
  rintro e w' ⟨rfl, rfl⟩
  go_wp2_with fail
  refine (H.Hb.out _).mono ?_
  rintro e w' ⟨rfl, hs1⟩
  go_wp2_with fail
  refine (H.Hax.out _).mono ?_
  rintro e w' ⟨rfl, rfl⟩
  go_wp2_with fail
  refine (H.Hxb.out _).mono ?_
  rintro e w' ⟨rfl, rfl⟩
  go_wp2_with fail
  refine (Hxm.out _).mono ?_
  rintro e w' ⟨rfl, hs2⟩
  go_wp2_with fail
  refine (H.Hm.out _).mono ?_
  rintro e w' ⟨rfl, hs3⟩
  go_wp2
  go_ret
  exact ⟨rfl, (hs1.trans (hs2.trans hs3)).below _⟩

set_option maxHeartbeats 2000000 in
theorem order_B (a b c U : ByteArray) (w : World) (h1 : a.size ≤ 10000) (h2 : b.size ≤ 10000) (h3 : c.size ≤ 10000) (HU : Hid (∀ w, Calls Try.prog 18 #[.string a] w fun e w' => e = .returned (.string U) ∧ w = w')) (Hau : Hid (∀ w, Calls Try.prog 17 #[.string a, .string U] w fun e w' => e = .returned (.int .i64 (-1)) ∧ w = w'))
    (X : ByteArray) (N : Nat) (v y u : Int) (H : ShortIn a b X N v) (v0 : -1 ≤ v) (v1 : v ≤ 0) (u0 : 0 ≤ u) (hle : X.size ≤ b.size) (Hba : Hid (∀ w, Calls Try.prog 17 #[.string b, .string a] w fun e w' => e = .returned (.int .i64 1) ∧ w = w')) (Hbc : Hid (∀ w, Calls Try.prog 17 #[.string b, .string c] w fun e w' => e = .returned (.int .i64 y) ∧ w = w')) (Hbu : Hid (∀ w, Calls Try.prog 17 #[.string b, .string U] w fun e w' => e = .returned (.int .i64 u) ∧ w = w')) (Hxm : Hid (∀ w, Calls Try.prog 12 #[.string X, .string b] w fun e w' => e = .returned (.int .i64 X.size) ∧ Still w w')) (g1 : ((N : Int) == (X.size : Int) - 1) = true) (g2 : decide (X.size ≤ b.size) = true) (g3 : (a.toList == b.toList) = false) (y0 : 0 < y) :
    Calls Try.prog 9 #[.string a, .string b, .string c] w fun e w' => e = .returned (.bool true) ∧ Below w.heap.size w w' := by
  go_enter Try.func9, Try.ntmps9
  go_wp2_with fail
  refine (awake_any _).mono ?_
  rintro e w' ⟨rfl, rfl⟩
  go_wp2_with fail
  refine (H.Hc.out _).mono ?_
  rintro e w' ⟨rfl, rfl⟩
  go_wp2_with fail
  refine (Hbc.out _).mono ?_
  rintro e w' ⟨rfl, rfl⟩
  go_wp2_with fail
  refine (Hba.out _).mono ?_
  rintro e w' ⟨rfl, rfl⟩
  go_wp2_with fail
  refine (HU.out _).mono ?_
  rintro e w' ⟨rfl, rfl⟩
  go_wp2_with fail
  refine (Hau.out _).mono ?_
  rintro e w' ⟨rfl, rfl⟩
  go_wp2_with fail
  refine (H.Hc.out _).mono ?_
  rintro e w' ⟨rfl, rfl⟩
  go_wp2_with fail
  refine (Hbu.out _).mono ?_
  rintro e w' ⟨rfl, rfl⟩
  go_wp2_with fail
  refine (H.Hb.out _).mono ?_
  rintro e w' ⟨rfl, hs1⟩
  go_wp2_with fail
  refine (H.Hax.out _).mono ?_
  rintro e w' ⟨rfl, rfl⟩
  go_wp2_with fail
  refine (H.Hxb.out _).mono ?_
  rintro e w' ⟨rfl, rfl⟩
  go_wp2_with fail
  refine (Hxm.out _).mono ?_
  rintro e w' ⟨rfl, hs2⟩
  go_wp2_with fail
  refine (H.Hm.out _).mono ?_
  rintro e w' ⟨rfl, hs3⟩
  go_wp2
  go_ret
  exact ⟨rfl, (hs1.trans (hs2.trans hs3)).below _⟩

set_option maxHeartbeats 2000000 in
theorem order_C (a b c U : ByteArray) (w : World) (h1 : a.size ≤ 10000) (h2 : b.size ≤ 10000) (h3 : c.size ≤ 10000) (HU : Hid (∀ w, Calls Try.prog 18 #[.string a] w fun e w' => e = .returned (.string U) ∧ w = w')) (Hau : Hid (∀ w, Calls Try.prog 17 #[.string a, .string U] w fun e w' => e = .returned (.int .i64 (-1)) ∧ w = w'))
    (Hab : Hid (∀ w, Calls Try.prog 17 #[.string a, .string b] w fun e w' => e = .returned (.int .i64 0) ∧ w = w')) (Hba : Hid (∀ w, Calls Try.prog 17 #[.string b, .string a] w fun e w' => e = .returned (.int .i64 0) ∧ w = w')) (Hbc : Hid (∀ w, Calls Try.prog 17 #[.string b, .string c] w fun e w' => e = .returned (.int .i64 0) ∧ w = w')) (Hb : Hid (∀ w, Calls Try.prog 19 #[.string a, .string b] w fun e w' => e = .returned (.tuple #[.string ⟨#[]⟩, .bool false]) ∧ w = w')) (g3 : (a.toList == b.toList) = true) (Hac : Hid (∀ w, Calls Try.prog 17 #[.string a, .string c] w fun e w' => e = .returned (.int .i64 0) ∧ w = w')) :
    Calls Try.prog 9 #[.string a, .string b, .string c] w fun e w' => e = .returned (.bool true) ∧ Below w.heap.size w w' := by
  go_enter Try.func9, Try.ntmps9
  go_wp2_with fail
  refine (awake_any _).mono ?_
  rintro e w' ⟨rfl, rfl⟩
  go_wp2_with fail
  refine (Hab.out _).mono ?_
  rintro e w' ⟨rfl, rfl⟩
  go_wp2_with fail
  refine (Hbc.out _).mono ?_
  rintro e w' ⟨rfl, rfl⟩
  go_wp2_with fail
  refine (Hba.out _).mono ?_
  rintro e w' ⟨rfl, rfl⟩
  go_wp2_with fail
  refine (Hac.out _).mono ?_
  rintro e w' ⟨rfl, rfl⟩
  go_wp2_with fail
  refine (HU.out _).mono ?_
  rintro e w' ⟨rfl, rfl⟩
  go_wp2_with fail
  refine (Hau.out _).mono ?_
  rintro e w' ⟨rfl, rfl⟩
  go_wp2_with fail
  refine (Hab.out _).mono ?_
  rintro e w' ⟨rfl, rfl⟩
  go_wp2_with fail
  refine (Hb.out _).mono ?_
  rintro e w' ⟨rfl, rfl⟩
  go_wp2
  go_ret
  exact ⟨rfl, Below.refl _ _⟩

set_option maxHeartbeats 2000000 in
theorem order_F (a b c U : ByteArray) (w : World) (h1 : a.size ≤ 10000) (h2 : b.size ≤ 10000) (h3 : c.size ≤ 10000) (HU : Hid (∀ w, Calls Try.prog 18 #[.string a] w fun e w' => e = .returned (.string U) ∧ w = w')) (Hau : Hid (∀ w, Calls Try.prog 17 #[.string a, .string U] w fun e w' => e = .returned (.int .i64 (-1)) ∧ w = w'))
    (Hab : Hid (∀ w, Calls Try.prog 17 #[.string a, .string b] w fun e w' => e = .returned (.int .i64 0) ∧ w = w')) (Hba : Hid (∀ w, Calls Try.prog 17 #[.string b, .string a] w fun e w' => e = .returned (.int .i64 0) ∧ w = w')) (Hbc : Hid (∀ w, Calls Try.prog 17 #[.string b, .string c] w fun e w' => e = .returned (.int .i64 (-1)) ∧ w = w')) (Hb : Hid (∀ w, Calls Try.prog 19 #[.string a, .string b] w fun e w' => e = .returned (.tuple #[.string ⟨#[]⟩, .bool false]) ∧ w = w')) (g3 : (a.toList == b.toList) = true) (Hac : Hid (∀ w, Calls Try.prog 17 #[.string a, .string c] w fun e w' => e = .returned (.int .i64 (-1)) ∧ w = w')) :
    Calls Try.prog 9 #[.string a, .string b, .string c] w fun e w' => e = .returned (.bool true) ∧ Below w.heap.size w w' := by
  go_enter Try.func9, Try.ntmps9
  go_wp2_with fail
  refine (awake_any _).mono ?_
  rintro e w' ⟨rfl, rfl⟩
  go_wp2_with fail
  refine (Hab.out _).mono ?_
  rintro e w' ⟨rfl, rfl⟩
  go_wp2_with fail
  refine (Hbc.out _).mono ?_
  rintro e w' ⟨rfl, rfl⟩
  go_wp2_with fail
  refine (Hba.out _).mono ?_
  rintro e w' ⟨rfl, rfl⟩
  go_wp2_with fail
  refine (Hac.out _).mono ?_
  rintro e w' ⟨rfl, rfl⟩
  go_wp2_with fail
  refine (HU.out _).mono ?_
  rintro e w' ⟨rfl, rfl⟩
  go_wp2_with fail
  refine (Hau.out _).mono ?_
  rintro e w' ⟨rfl, rfl⟩
  go_wp2_with fail
  refine (Hab.out _).mono ?_
  rintro e w' ⟨rfl, rfl⟩
  go_wp2_with fail
  refine (Hb.out _).mono ?_
  rintro e w' ⟨rfl, rfl⟩
  go_wp2
  go_ret
  exact ⟨rfl, Below.refl _ _⟩

set_option maxHeartbeats 2000000 in
theorem order_D (a b c U : ByteArray) (w : World) (h1 : a.size ≤ 10000) (h2 : b.size ≤ 10000) (h3 : c.size ≤ 10000) (HU : Hid (∀ w, Calls Try.prog 18 #[.string a] w fun e w' => e = .returned (.string U) ∧ w = w')) (Hau : Hid (∀ w, Calls Try.prog 17 #[.string a, .string U] w fun e w' => e = .returned (.int .i64 (-1)) ∧ w = w'))
    (y : Int) (Hab : Hid (∀ w, Calls Try.prog 17 #[.string a, .string b] w fun e w' => e = .returned (.int .i64 0) ∧ w = w')) (Hba : Hid (∀ w, Calls Try.prog 17 #[.string b, .string a] w fun e w' => e = .returned (.int .i64 0) ∧ w = w')) (Hbc : Hid (∀ w, Calls Try.prog 17 #[.string b, .string c] w fun e w' => e = .returned (.int .i64 y) ∧ w = w')) (Hb : Hid (∀ w, Calls Try.prog 19 #[.string a, .string b] w fun e w' => e = .returned (.tuple #[.string ⟨#[]⟩, .bool false]) ∧ w = w')) (g3 : (a.toList == b.toList) = true) (y0 : 0 < y) :
    Calls Try.prog 9 #[.string a, .string b, .string c] w fun e w' => e = .returned (.bool true) ∧ Below w.heap.size w w' := by
  go_enter Try.func9, Try.ntmps9
  go_wp2_with fail
  refine (awake_any _).mono ?_
  rintro e w' ⟨rfl, rfl⟩
  go_wp2_with fail
  refine (Hab.out _).mono ?_
  rintro e w' ⟨rfl, rfl⟩
  go_wp2_with fail
  refine (Hbc.out _).mono ?_
  rintro e w' ⟨rfl, rfl⟩
  go_wp2_with fail
  refine (Hba.out _).mono ?_
  rintro e w' ⟨rfl, rfl⟩
  go_wp2_with fail
  refine (HU.out _).mono ?_
  rintro e w' ⟨rfl, rfl⟩
  go_wp2_with fail
  refine (Hau.out _).mono ?_
  rintro e w' ⟨rfl, rfl⟩
  go_wp2_with fail
  refine (Hab.out _).mono ?_
  rintro e w' ⟨rfl, rfl⟩
  go_wp2_with fail
  refine (Hb.out _).mono ?_
  rintro e w' ⟨rfl, rfl⟩
  go_wp2
  go_ret
  exact ⟨rfl, Below.refl _ _⟩

set_option maxHeartbeats 2000000 in
theorem order_E (a b c U : ByteArray) (w : World) (h1 : a.size ≤ 10000) (h2 : b.size ≤ 10000) (h3 : c.size ≤ 10000) (HU : Hid (∀ w, Calls Try.prog 18 #[.string a] w fun e w' => e = .returned (.string U) ∧ w = w')) (Hau : Hid (∀ w, Calls Try.prog 17 #[.string a, .string U] w fun e w' => e = .returned (.int .i64 (-1)) ∧ w = w'))
    (y : Int) (Hab : Hid (∀ w, Calls Try.prog 17 #[.string a, .string b] w fun e w' => e = .returned (.int .i64 1) ∧ w = w')) (Hba : Hid (∀ w, Calls Try.prog 17 #[.string b, .string a] w fun e w' => e = .returned (.int .i64 (-1)) ∧ w = w')) (Hbc : Hid (∀ w, Calls Try.prog 17 #[.string b, .string c] w fun e w' => e = .returned (.int .i64 y) ∧ w = w')) (Hb : Hid (∀ w, Calls Try.prog 19 #[.string a, .string b] w fun e w' => e = .returned (.tuple #[.string ⟨#[]⟩, .bool false]) ∧ w = w')) (g3 : (a.toList == b.toList) = false) :
    Calls Try.prog 9 #[.string a, .string b, .string c] w fun e w' => e = .returned (.bool true) ∧ Below w.heap.size w w' := by
  go_enter Try.func9, Try.ntmps9
  go_wp2_with fail
  refine (awake_any _).mono ?_
  rintro e w' ⟨rfl, rfl⟩
  go_wp2_with fail
  refine (Hab.out _).mono ?_
  rintro e w' ⟨rfl, rfl⟩
  go_wp2_with fail
  refine (Hbc.out _).mono ?_
  rintro e w' ⟨rfl, rfl⟩
  go_wp2_with fail
  refine (Hba.out _).mono ?_
  rintro e w' ⟨rfl, rfl⟩
  go_wp2_with fail
  refine (HU.out _).mono ?_
  rintro e w' ⟨rfl, rfl⟩
  go_wp2_with fail
  refine (Hau.out _).mono ?_
  rintro e w' ⟨rfl, rfl⟩
  go_wp2_with fail
  refine (Hab.out _).mono ?_
  rintro e w' ⟨rfl, rfl⟩
  go_wp2_with fail
  refine (Hb.out _).mono ?_
  rintro e w' ⟨rfl, rfl⟩
  go_wp2
  go_ret
  exact ⟨rfl, Below.refl _ _⟩

theorem ne_list {a b : ByteArray} (h : a.data.toList ≠ b.data.toList) : (a.toList == b.toList) = false := by
  rw [Lib.toList_data, Lib.toList_data]; simpa using h
theorem keysOrder_walk (a b c : ByteArray) (ra : a.size ≤ 140737488351232) (rb : b.size ≤ 140737488351232) (rc : c.size ≤ 140737488351232) (w : World) :
    Calls Try.prog 9 #[.string a, .string b, .string c] w fun e w' => e = .returned (.bool true) ∧ Below w.heap.size w w' := by
  have la : a.size < maxLen := by unfold maxLen; omega
  have lb : b.size < maxLen := by unfold maxLen; omega
  have lc : c.size < maxLen := by unfold maxLen; omega
  rcases (show 10000 < a.size ∨ (a.size ≤ 10000 ∧ 10000 < b.size) ∨ (a.size ≤ 10000 ∧ b.size ≤ 10000 ∧ 10000 < c.size) ∨ (a.size ≤ 10000 ∧ b.size ≤ 10000 ∧ c.size ≤ 10000) from by omega) with h1 | ⟨h1, h2⟩ | ⟨h1, h2, h3⟩ | ⟨h1, h2, h3⟩
  iterate 3
    · go_enter Try.func9, Try.ntmps9
      go_wp2_with (go_at_call 11; refine (awake_any _).mono ?_; rintro e w' ⟨rfl, rfl⟩)
      go_ret
      exact ⟨rfl, Below.refl _ _⟩
  obtain ⟨U, hU⟩ : ∃ U : ByteArray, U = a ++ ⟨#[0]⟩ := ⟨_, rfl⟩
  have bU : U.data.toList = a.data.toList ++ [0] := by rw [hU, after_list]
  have HU := Lib.hid (show ∀ w, Calls Try.prog 18 #[.string a] w fun e w' => e = .returned (.string U) ∧ w = w' from fun w => by rw [hU]; exact after_any a w la)
  have Hau := Lib.hid (compare_at a U (-1) (by rw [bU]; exact cmp_lt (lt_after _)))
  obtain ⟨y, hy⟩ : ∃ y, compareBytes b.data.toList c.data.toList = y := ⟨_, rfl⟩
  have Hbc := Lib.hid (compare_at b c y hy)
  rcases lt_tri a.data.toList b.data.toList with h | h | h
  · obtain ⟨X, N, p⟩ := parts_of h
    obtain ⟨v, hv, v0, v1⟩ := cmp_le_of p.hi
    obtain ⟨u, hu, u0, _⟩ := cmp_ge_of (after_le h)
    rw [← bU] at hu
    have H : ShortIn a b X N v := ⟨Lib.hid (p.between h (by omega) (by omega)), Lib.hid (compare_at a b _ (cmp_lt h)), Lib.hid (compare_at a X _ (cmp_lt p.lo)), Lib.hid (compare_at X b v hv), Lib.hid (common_at a b N p.com (by omega) (by omega))⟩
    have hs := p.size
    have hle := p.le
    have Hxm := Lib.hid (common_at X b X.size p.comX (by omega) (by omega))
    have g1 : ((N : Int) == (X.size : Int) - 1) = true := by simp; omega
    have g2 : decide (X.size ≤ b.size) = true := by simp; omega
    have g3 := ne_list (fun e => lt_irrefl _ (e ▸ h))
    have Hba := Lib.hid (compare_at b a _ (cmp_gt h))
    have Hbu := Lib.hid (compare_at b U u hu)
    by_cases hbc : c.data.toList < b.data.toList
    · exact order_B a b c U w h1 h2 h3 HU Hau X N v y u H v0 v1 u0 hle Hba Hbc Hbu Hxm g1 g2 g3 (by rw [← hy, cmp_gt hbc]; omega)
    · obtain ⟨y', hy', y0, y1⟩ := cmp_le_of hbc
      obtain rfl : y' = y := hy'.symm.trans hy
      have hac : a.data.toList < c.data.toList := by
        rcases lt_tri b.data.toList c.data.toList with k | k | k
        · exact lt_trans h k
        · exact k ▸ h
        · exact absurd k hbc
      exact order_A a b c U w h1 h2 h3 HU Hau X N v y' u H v0 v1 u0 hle Hba Hbc Hbu Hxm g1 g2 g3 y0 y1 (Lib.hid (compare_at a c _ (cmp_lt hac)))
  · have Hb := Lib.hid (fun w => between_no a b w (by rw [h]; exact lt_irrefl _))
    have Hab := Lib.hid (compare_at a b 0 (by rw [h, cmp_self]))
    have Hba := Lib.hid (compare_at b a 0 (by rw [h, cmp_self]))
    have g3 : (a.toList == b.toList) = true := by rw [Lib.toList_data, Lib.toList_data, h]; simp
    by_cases hbc : c.data.toList < b.data.toList
    · exact order_D a b c U w h1 h2 h3 HU Hau y Hab Hba Hbc Hb g3 (by rw [← hy, cmp_gt hbc]; omega)
    · obtain ⟨y', hy', y0, y1⟩ := cmp_le_of hbc
      obtain rfl : y' = y := hy'.symm.trans hy
      rcases (show y' = 0 ∨ y' = -1 from by omega) with rfl | rfl
      · exact order_C a b c U w h1 h2 h3 HU Hau Hab Hba Hbc Hb g3 (Lib.hid (compare_at a c _ (by rw [h]; exact hy)))
      · exact order_F a b c U w h1 h2 h3 HU Hau Hab Hba Hbc Hb g3 (Lib.hid (compare_at a c _ (by rw [h]; exact hy)))
  · have Hb := Lib.hid (fun w => between_no a b w (lt_asymm h))
    exact order_E a b c U w h1 h2 h3 HU Hau y (Lib.hid (compare_at a b _ (cmp_gt h))) (Lib.hid (compare_at b a _ (cmp_lt h))) Hbc Hb (ne_list (fun e => lt_irrefl _ (e ▸ h)))
end Go.Proofs.Ytiimchhbbjlegaa
