/- The walk of the law KeysCommon. -/
import Derived.Test.YtiimchhbbjlegaaKeysL1
namespace Go.Proofs.Ytiimchhbbjlegaa
open Go.RowKit
set_option linter.unusedVariables false

set_option maxHeartbeats 1600000 in
theorem keysCommon_A (a b c : ByteArray) (N M K : Nat) (w : World) (h1 : a.size ≤ 2000) (h2 : b.size ≤ 2000) (h3 : c.size ≤ 2000)
    (Hab : Hid (∀ w, Calls Try.prog 12 #[.string a, .string b] w fun e w' => e = .returned (.int .i64 N) ∧ Still w w'))
    (Hba : Hid (∀ w, Calls Try.prog 12 #[.string b, .string a] w fun e w' => e = .returned (.int .i64 N) ∧ Still w w'))
    (Haa : Hid (∀ w, Calls Try.prog 12 #[.string a, .string a] w fun e w' => e = .returned (.int .i64 a.size) ∧ Still w w'))
    (Hbc : Hid (∀ w, Calls Try.prog 12 #[.string b, .string c] w fun e w' => e = .returned (.int .i64 M) ∧ Still w w'))
    (Hac : Hid (∀ w, Calls Try.prog 12 #[.string a, .string c] w fun e w' => e = .returned (.int .i64 K) ∧ Still w w'))
    (hNa : N ≤ a.size) (hNb : N ≤ b.size) (hmin : min N M ≤ K) (hs : ((a.extract 0 N).toList == (b.extract 0 N).toList) = true) (g1 : decide (a.size < N) = false) (g2 : decide (b.size < N) = false) (g0 : decide ((N : Int) < 0) = false)
    (x : N < a.size) (y : N < b.size) (g3 : decide (N < a.size) = true) (g4 : decide (N < b.size) = true) (g5 : ((a[N].toNat : Int) == (b[N].toNat : Int)) = false) :
    Calls Try.prog 3 #[.string a, .string b, .string c] w fun e w' => e = .returned (.bool true) ∧ Below w.heap.size w w' := by
  go_enter Try.func3, Try.ntmps3
  go_wp2_with (first | (go_at_call 11; refine (awake_any _).mono ?_; rintro e w' ⟨rfl, rfl⟩) | (go_at_call 12; refine (Hab.out _).mono ?_; rintro e w1 ⟨rfl, hw1⟩))
  go_quiet ((first | (go_at_call_of 12 (Value.string b); exact Calls.quiet_still (Hba.out _)) | (go_at_call_of 12 (Value.string a); exact Calls.quiet_still (Haa.out _))))
  go_wp2_with fail
  refine (Hac.out _).mono ?_
  rintro e w2 ⟨rfl, hw2⟩
  go_wp2_with fail
  refine (Hbc.out _).mono ?_
  rintro e w3 ⟨rfl, hw3⟩
  have hm : (N ≤ M ∧ N ≤ K) ∨ (M < N ∧ M ≤ K) := by omega
  rcases hm with ⟨m1, m2⟩ | ⟨m1, m2⟩
  all_goals
    go_wp2
    go_ret
    exact ⟨ret_bool (by first | (simp; done) | (simp; omega)), ((hw1.drewN _).trans (hw2.trans hw3)).below _⟩

set_option maxHeartbeats 1600000 in
theorem keysCommon_B (a b c : ByteArray) (N M K : Nat) (w : World) (h1 : a.size ≤ 2000) (h2 : b.size ≤ 2000) (h3 : c.size ≤ 2000)
    (Hab : Hid (∀ w, Calls Try.prog 12 #[.string a, .string b] w fun e w' => e = .returned (.int .i64 N) ∧ Still w w'))
    (Hba : Hid (∀ w, Calls Try.prog 12 #[.string b, .string a] w fun e w' => e = .returned (.int .i64 N) ∧ Still w w'))
    (Haa : Hid (∀ w, Calls Try.prog 12 #[.string a, .string a] w fun e w' => e = .returned (.int .i64 a.size) ∧ Still w w'))
    (Hbc : Hid (∀ w, Calls Try.prog 12 #[.string b, .string c] w fun e w' => e = .returned (.int .i64 M) ∧ Still w w'))
    (Hac : Hid (∀ w, Calls Try.prog 12 #[.string a, .string c] w fun e w' => e = .returned (.int .i64 K) ∧ Still w w'))
    (hNa : N ≤ a.size) (hNb : N ≤ b.size) (hmin : min N M ≤ K) (hs : ((a.extract 0 N).toList == (b.extract 0 N).toList) = true) (g1 : decide (a.size < N) = false) (g2 : decide (b.size < N) = false) (g0 : decide ((N : Int) < 0) = false)
    (g3 : decide (N < a.size) = false) :
    Calls Try.prog 3 #[.string a, .string b, .string c] w fun e w' => e = .returned (.bool true) ∧ Below w.heap.size w w' := by
  go_enter Try.func3, Try.ntmps3
  go_wp2_with (first | (go_at_call 11; refine (awake_any _).mono ?_; rintro e w' ⟨rfl, rfl⟩) | (go_at_call 12; refine (Hab.out _).mono ?_; rintro e w1 ⟨rfl, hw1⟩))
  go_quiet ((first | (go_at_call_of 12 (Value.string b); exact Calls.quiet_still (Hba.out _)) | (go_at_call_of 12 (Value.string a); exact Calls.quiet_still (Haa.out _))))
  go_wp2_with fail
  refine (Hac.out _).mono ?_
  rintro e w2 ⟨rfl, hw2⟩
  go_wp2_with fail
  refine (Hbc.out _).mono ?_
  rintro e w3 ⟨rfl, hw3⟩
  have hm : (N ≤ M ∧ N ≤ K) ∨ (M < N ∧ M ≤ K) := by omega
  rcases hm with ⟨m1, m2⟩ | ⟨m1, m2⟩
  all_goals
    go_wp2
    go_ret
    exact ⟨ret_bool (by first | (simp; done) | (simp; omega)), ((hw1.drewN _).trans (hw2.trans hw3)).below _⟩

set_option maxHeartbeats 1600000 in
theorem keysCommon_C (a b c : ByteArray) (N M K : Nat) (w : World) (h1 : a.size ≤ 2000) (h2 : b.size ≤ 2000) (h3 : c.size ≤ 2000)
    (Hab : Hid (∀ w, Calls Try.prog 12 #[.string a, .string b] w fun e w' => e = .returned (.int .i64 N) ∧ Still w w'))
    (Hba : Hid (∀ w, Calls Try.prog 12 #[.string b, .string a] w fun e w' => e = .returned (.int .i64 N) ∧ Still w w'))
    (Haa : Hid (∀ w, Calls Try.prog 12 #[.string a, .string a] w fun e w' => e = .returned (.int .i64 a.size) ∧ Still w w'))
    (Hbc : Hid (∀ w, Calls Try.prog 12 #[.string b, .string c] w fun e w' => e = .returned (.int .i64 M) ∧ Still w w'))
    (Hac : Hid (∀ w, Calls Try.prog 12 #[.string a, .string c] w fun e w' => e = .returned (.int .i64 K) ∧ Still w w'))
    (hNa : N ≤ a.size) (hNb : N ≤ b.size) (hmin : min N M ≤ K) (hs : ((a.extract 0 N).toList == (b.extract 0 N).toList) = true) (g1 : decide (a.size < N) = false) (g2 : decide (b.size < N) = false) (g0 : decide ((N : Int) < 0) = false)
    (g3 : decide (N < a.size) = true) (g4 : decide (N < b.size) = false) :
    Calls Try.prog 3 #[.string a, .string b, .string c] w fun e w' => e = .returned (.bool true) ∧ Below w.heap.size w w' := by
  go_enter Try.func3, Try.ntmps3
  go_wp2_with (first | (go_at_call 11; refine (awake_any _).mono ?_; rintro e w' ⟨rfl, rfl⟩) | (go_at_call 12; refine (Hab.out _).mono ?_; rintro e w1 ⟨rfl, hw1⟩))
  go_quiet ((first | (go_at_call_of 12 (Value.string b); exact Calls.quiet_still (Hba.out _)) | (go_at_call_of 12 (Value.string a); exact Calls.quiet_still (Haa.out _))))
  go_wp2_with fail
  refine (Hac.out _).mono ?_
  rintro e w2 ⟨rfl, hw2⟩
  go_wp2_with fail
  refine (Hbc.out _).mono ?_
  rintro e w3 ⟨rfl, hw3⟩
  have hm : (N ≤ M ∧ N ≤ K) ∨ (M < N ∧ M ≤ K) := by omega
  rcases hm with ⟨m1, m2⟩ | ⟨m1, m2⟩
  all_goals
    go_wp2
    go_ret
    exact ⟨ret_bool (by first | (simp; done) | (simp; omega)), ((hw1.drewN _).trans (hw2.trans hw3)).below _⟩

theorem keysCommon_walk (a b c : ByteArray) (ra : a.size ≤ 140737488351232) (rb : b.size ≤ 140737488351232) (rc : c.size ≤ 140737488351232) (w : World) :
    Calls Try.prog 3 #[.string a, .string b, .string c] w fun e w' => e = .returned (.bool true) ∧ Below w.heap.size w w' := by
  have la : a.size ≤ maxLen := by unfold maxLen; omega
  have lb : b.size ≤ maxLen := by unfold maxLen; omega
  have lc : c.size ≤ maxLen := by unfold maxLen; omega
  rcases (show 2000 < a.size ∨ (a.size ≤ 2000 ∧ 2000 < b.size) ∨ (a.size ≤ 2000 ∧ b.size ≤ 2000 ∧ 2000 < c.size) ∨ (a.size ≤ 2000 ∧ b.size ≤ 2000 ∧ c.size ≤ 2000) from by omega) with h1 | ⟨h1, h2⟩ | ⟨h1, h2, h3⟩ | ⟨h1, h2, h3⟩
  iterate 3
    · go_enter Try.func3, Try.ntmps3
      go_wp2_with (go_at_call 11; refine (awake_any _).mono ?_; rintro e w' ⟨rfl, rfl⟩)
      go_ret
      exact ⟨rfl, Below.refl _ _⟩
  · obtain ⟨N, hN⟩ : ∃ N, com a.data.toList b.data.toList = N := ⟨_, rfl⟩
    obtain ⟨M, hM⟩ : ∃ M, com b.data.toList c.data.toList = M := ⟨_, rfl⟩
    obtain ⟨K, hK⟩ : ∃ K, com a.data.toList c.data.toList = K := ⟨_, rfl⟩
    have Hab := Lib.hid (common_at a b N hN la lb)
    have Hba := Lib.hid (common_at b a N (by rw [com_comm]; exact hN) lb la)
    have Haa := Lib.hid (common_at a a a.size (by rw [com_self, ba_len]) la la)
    have Hbc := Lib.hid (common_at b c M hM lb lc)
    have Hac := Lib.hid (common_at a c K hK la lc)
    have hNa : N ≤ a.size := by rw [← hN, ← ba_len a]; exact com_le_l _ _
    have hNb : N ≤ b.size := by rw [← hN, ← ba_len b]; exact com_le_r _ _
    have hmin : min N M ≤ K := by rw [← hN, ← hM, ← hK]; exact com_trans _ _ _
    have hs : ((a.extract 0 N).toList == (b.extract 0 N).toList) = true := ext_eq (by omega)
    have hpart : ∀ (x : N < a.size) (y : N < b.size), ((a[N].toNat : Int) == (b[N].toNat : Int)) = false := fun x y => by
      refine eql_no x y ?_
      have := com_stop a.data.toList b.data.toList (by rw [hN]; simpa using x) (by rw [hN]; simpa using y)
      rwa [hN] at this
    have g1 : decide (a.size < N) = false := by simpa using hNa
    have g2 : decide (b.size < N) = false := by simpa using hNb
    have hcase : (N < a.size ∧ N < b.size) ∨ (a.size ≤ N) ∨ (N < a.size ∧ b.size ≤ N) := by omega
    rcases hcase with ⟨x, y⟩ | x | ⟨x, y⟩
    · exact keysCommon_A a b c N M K w h1 h2 h3 Hab Hba Haa Hbc Hac hNa hNb hmin hs g1 g2 (by simp) x y (by simpa using x) (by simpa using y) (hpart x y)
    · exact keysCommon_B a b c N M K w h1 h2 h3 Hab Hba Haa Hbc Hac hNa hNb hmin hs g1 g2 (by simp) (by simpa using x)
    · exact keysCommon_C a b c N M K w h1 h2 h3 Hab Hba Haa Hbc Hac hNa hNb hmin hs g1 g2 (by simp) (by simpa using x) (by simpa using y)
end Go.Proofs.Ytiimchhbbjlegaa
