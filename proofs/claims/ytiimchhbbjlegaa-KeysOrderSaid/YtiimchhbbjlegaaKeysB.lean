/- What Between tells; the walks of the laws KeysTells, KeysShort. -/
import Derived.Test.YtiimchhbbjlegaaKeysN
namespace Go.Proofs.Ytiimchhbbjlegaa
open Go.RowKit
open Go.Lib (compareBytes)
set_option linter.unusedVariables false

/-- No text between two, the upper one among them, is shorter than what parts them. -/
theorem short_len {a b c : List UInt8} (h : a < c) (hc : ¬ b < c) : com a b < c.length := by
  rcases Nat.lt_or_ge (com a b) c.length with k | k
  · exact k
  · exfalso
    have h1 := com_le_l a b
    have h2 := com_le_r a b
    obtain ⟨k1, k2⟩ := (lt_com a c).1 h
    have k3 : a[com a c]?.getD 0 < c[com a c]?.getD 0 := by
      rcases k2 with e | e
      · omega
      · exact e
    have hab : ∀ i, i < c.length → a[i]? = b[i]? := fun i hi => com_get a b i (by omega)
    have hbc : com b c = com a c := com_eq b c _ (by omega) (by omega) (fun i hi => by rw [← hab i (by omega)]; exact com_get a c i hi) (.inr (.inr (by
      rw [← hab _ k1]; intro e; rw [e] at k3; exact UInt8.lt_irrefl _ k3)))
    exact hc ((lt_com b c).2 ⟨by rw [hbc]; exact k1, .inr (by rw [hbc, ← hab _ k1]; exact k3)⟩)

/-- What is told of the text that parts two. -/
structure Parts (a b X : ByteArray) (N : Nat) : Prop where
  com : com a.data.toList b.data.toList = N
  size : X.size = N + 1
  le : X.size ≤ b.size
  lo : a.data.toList < X.data.toList
  hi : ¬ b.data.toList < X.data.toList
  pre : X = b.extract 0 (N + 1)
  comX : Go.Proofs.Ytiimchhbbjlegaa.com X.data.toList b.data.toList = X.size
theorem parts_of {a b : ByteArray} (h : a.data.toList < b.data.toList) : ∃ X N, Parts a b X N := by
  have h1 := ((lt_com _ _).1 h).1
  rw [ba_len] at h1
  have hs : (b.extract 0 (com a.data.toList b.data.toList + 1)).size = com a.data.toList b.data.toList + 1 := by rw [ByteArray.size_extract]; omega
  refine ⟨_, _, rfl, hs, by omega, ?_, ?_, rfl, ?_⟩
  · rw [ext_list, lt_take]; exact ⟨h, by omega⟩
  · rw [ext_list, lt_take]; exact fun k => lt_irrefl _ k.1
  · rw [hs]
    refine com_eq _ _ _ (by rw [ba_len, hs]; exact Nat.le_refl _) (by rw [ba_len]; omega) (fun i hi => ?_) (.inl (by rw [ba_len, hs]))
    rw [ext_list, List.getElem?_take, if_pos hi]
theorem Parts.between {a b X : ByteArray} {N : Nat} (p : Parts a b X N) (h : a.data.toList < b.data.toList) (ha : a.size ≤ maxLen) (hb : b.size ≤ maxLen) (w : World) :
    Calls Try.prog 19 #[.string a, .string b] w fun e w' => e = .returned (.tuple #[.string X, .bool true]) ∧ Still w w' := by
  rw [p.pre, ← p.com]; exact between_yes a b w h ha hb
theorem Parts.rbetween {a b X : ByteArray} {N : Nat} (p : Parts a b X N) (h : a.data.toList < b.data.toList) (ha : a.size ≤ maxLen) (hb : b.size < maxLen) (w : World) :
    Calls Try.prog 20 #[.string a, .string b] w fun e w' => e = .returned (.tuple #[.string X, .bool true]) ∧ Still w w' := by
  rw [p.pre, ← p.com]; exact rbetween_yes a b w ha hb h
theorem cmp_le_of {a b : List UInt8} (h : ¬ b < a) : ∃ v : Int, compareBytes a b = v ∧ -1 ≤ v ∧ v ≤ 0 := by
  refine ⟨_, rfl, ?_⟩
  rcases lt_tri a b with k | k | k
  · rw [cmp_lt k]; omega
  · rw [k, cmp_self]; omega
  · exact absurd k h
theorem cmp_ge_of {a b : List UInt8} (h : ¬ a < b) : ∃ v : Int, compareBytes a b = v ∧ 0 ≤ v ∧ v ≤ 1 := by
  refine ⟨_, rfl, ?_⟩
  rcases lt_tri a b with k | k | k
  · exact absurd k h
  · rw [k, cmp_self]; omega
  · rw [cmp_gt k]; omega
theorem rcompare_at (a b : ByteArray) (v : Int) (h : compareBytes a.data.toList b.data.toList = v) (ha : a.size ≤ maxLen) (hb : b.size ≤ maxLen) (w : World) :
    Calls Try.prog 21 #[.string a, .string b] w fun e w' => e = .returned (.int .i64 v) ∧ Still w w' := by
  subst h; exact rcompare_any a b w ha hb
theorem rcommon_at (a b : ByteArray) (N : Nat) (hN : com a.data.toList b.data.toList = N) (ha : a.size ≤ maxLen) (hb : b.size ≤ maxLen) (w : World) :
    Calls Try.prog 22 #[.string a, .string b] w fun e w' => e = .returned (.int .i64 N) ∧ Still w w' := by
  subst hN; exact rcommon_any a b w ha hb

set_option maxHeartbeats 1000000 in
theorem keysTells_walk (a b : ByteArray) (ra : a.size ≤ 140737488351232) (rb : b.size ≤ 140737488351232) (w : World) :
    Calls Try.prog 8 #[.string a, .string b] w fun e w' => e = .returned (.bool true) ∧ Below w.heap.size w w' := by
  have la : a.size < maxLen := by unfold maxLen; omega
  have lb : b.size < maxLen := by unfold maxLen; omega
  rcases (show 10000 < a.size ∨ (a.size ≤ 10000 ∧ 10000 < b.size) ∨ (a.size ≤ 10000 ∧ b.size ≤ 10000) from by omega) with h1 | ⟨h1, h2⟩ | ⟨h1, h2⟩
  iterate 2
    · go_enter Try.func8, Try.ntmps8
      go_wp2_with (go_at_call 11; refine (awake_any _).mono ?_; rintro e w' ⟨rfl, rfl⟩)
      go_ret
      exact ⟨rfl, Below.refl _ _⟩
  obtain ⟨v, hv⟩ : ∃ v, compareBytes a.data.toList b.data.toList = v := ⟨_, rfl⟩
  obtain ⟨N, hN⟩ : ∃ N, com a.data.toList b.data.toList = N := ⟨_, rfl⟩
  have Hc := Lib.hid (compare_at a b v hv)
  have Hr := Lib.hid (rcompare_at a b v hv (by omega) (by omega))
  have Hm := Lib.hid (common_at a b N hN (by omega) (by omega))
  have Hn := Lib.hid (rcommon_at a b N hN (by omega) (by omega))
  have Ha := Lib.hid (fun w => after_any a w la)
  clear hv hN
  by_cases h : a.data.toList < b.data.toList
  · obtain ⟨X, M, p⟩ := parts_of h
    have Hb := Lib.hid (p.between h (by omega) (by omega))
    have Hd := Lib.hid (p.rbetween h (by omega) (by omega))
    clear p h
    go_enter Try.func8, Try.ntmps8
    go_wp2_with fail
    refine (awake_any _).mono ?_
    rintro e w' ⟨rfl, rfl⟩
    go_wp2_with fail
    refine (Hb.out _).mono ?_
    rintro e w' ⟨rfl, hs1⟩
    go_wp2_with fail
    refine (Hd.out _).mono ?_
    rintro e w' ⟨rfl, hs2⟩
    go_wp2_with fail
    refine (Hc.out _).mono ?_
    rintro e w' ⟨rfl, rfl⟩
    go_wp2_with fail
    refine (Hr.out _).mono ?_
    rintro e w' ⟨rfl, hs3⟩
    go_wp2_with fail
    refine (Hm.out _).mono ?_
    rintro e w' ⟨rfl, hs4⟩
    go_wp2_with fail
    refine (Hn.out _).mono ?_
    rintro e w' ⟨rfl, hs5⟩
    go_wp2_with fail
    refine (Ha.out _).mono ?_
    rintro e w' ⟨rfl, rfl⟩
    go_wp2
    go_ret
    exact ⟨rfl, (hs1.trans (hs2.trans (hs3.trans (hs4.trans hs5)))).below _⟩
  · have Hb := Lib.hid (fun w => between_no a b w h)
    have Hd := Lib.hid (fun w => rbetween_no a b w (by omega) (by omega) h)
    clear h
    go_enter Try.func8, Try.ntmps8
    go_wp2_with fail
    refine (awake_any _).mono ?_
    rintro e w' ⟨rfl, rfl⟩
    go_wp2_with fail
    refine (Hb.out _).mono ?_
    rintro e w' ⟨rfl, rfl⟩
    go_wp2_with fail
    refine (Hd.out _).mono ?_
    rintro e w' ⟨rfl, hs2⟩
    go_wp2_with fail
    refine (Hc.out _).mono ?_
    rintro e w' ⟨rfl, rfl⟩
    go_wp2_with fail
    refine (Hr.out _).mono ?_
    rintro e w' ⟨rfl, hs3⟩
    go_wp2_with fail
    refine (Hm.out _).mono ?_
    rintro e w' ⟨rfl, hs4⟩
    go_wp2_with fail
    refine (Hn.out _).mono ?_
    rintro e w' ⟨rfl, hs5⟩
    go_wp2_with fail
    refine (Ha.out _).mono ?_
    rintro e w' ⟨rfl, rfl⟩
    go_wp2
    go_ret
    exact ⟨rfl, (Still.trans hs2 (hs3.trans (hs4.trans hs5))).below _⟩

theorem short_no (a b c : ByteArray) (w : World) (h1 : a.size ≤ 2000) (h2 : b.size ≤ 2000) (h3 : c.size ≤ 2000) (h : ¬ a.data.toList < b.data.toList) :
    Calls Try.prog 7 #[.string a, .string b, .string c] w fun e w' => e = .returned (.bool true) ∧ Below w.heap.size w w' := by
  obtain ⟨v, hv, hv0, hv1⟩ := cmp_ge_of h
  have Hb := Lib.hid (fun w => between_no a b w h)
  have Hc := Lib.hid (compare_at a b v hv)
  clear h hv
  go_enter Try.func7, Try.ntmps7
  go_wp2_with fail
  refine (awake_any _).mono ?_
  rintro e w' ⟨rfl, rfl⟩
  go_wp2_with fail
  refine (Hb.out _).mono ?_
  rintro e w' ⟨rfl, rfl⟩
  go_wp2_with fail
  refine (Hc.out _).mono ?_
  rintro e w' ⟨rfl, rfl⟩
  go_wp2
  go_ret
  exact ⟨rfl, Below.refl _ _⟩

/-- What the walk of KeysShort is told where the one is less than the other. -/
structure ShortIn (a b X : ByteArray) (N : Nat) (v : Int) : Prop where
  Hb : Hid (∀ w, Calls Try.prog 19 #[.string a, .string b] w fun e w' => e = .returned (.tuple #[.string X, .bool true]) ∧ Still w w')
  Hc : Hid (∀ w, Calls Try.prog 17 #[.string a, .string b] w fun e w' => e = .returned (.int .i64 (-1)) ∧ w = w')
  Hax : Hid (∀ w, Calls Try.prog 17 #[.string a, .string X] w fun e w' => e = .returned (.int .i64 (-1)) ∧ w = w')
  Hxb : Hid (∀ w, Calls Try.prog 17 #[.string X, .string b] w fun e w' => e = .returned (.int .i64 v) ∧ w = w')
  Hm : Hid (∀ w, Calls Try.prog 12 #[.string a, .string b] w fun e w' => e = .returned (.int .i64 N) ∧ Still w w')
set_option maxHeartbeats 1000000 in
theorem short_A (a b c X : ByteArray) (N : Nat) (v : Int) (w : World) (h1 : a.size ≤ 2000) (h2 : b.size ≤ 2000) (h3 : c.size ≤ 2000) (H : ShortIn a b X N v) (v0 : -1 ≤ v) (v1 : v ≤ 0) (hN : N ≤ 2000) (hle : X.size ≤ b.size)
    (g1 : ((X.size : Int) != (N : Int) + 1) = false) (g2 : decide (b.size < X.size) = false) (g3 : ((b.extract 0 X.size).toList == X.toList) = true) (u : Int) (u0 : u ≤ 0) (Hac : Hid (∀ w, Calls Try.prog 17 #[.string a, .string c] w fun e w' => e = .returned (.int .i64 (-1)) ∧ w = w')) (Hcb : Hid (∀ w, Calls Try.prog 17 #[.string c, .string b] w fun e w' => e = .returned (.int .i64 u) ∧ w = w')) (g4 : decide (X.size ≤ c.size) = true) :
    Calls Try.prog 7 #[.string a, .string b, .string c] w fun e w' => e = .returned (.bool true) ∧ Below w.heap.size w w' := by
  go_enter Try.func7, Try.ntmps7
  go_wp2_with fail
  refine (awake_any _).mono ?_
  rintro e w' ⟨rfl, rfl⟩
  go_wp2_with fail
  refine (H.Hb.out _).mono ?_
  rintro e w' ⟨rfl, hs1⟩
  go_wp2_with fail
  refine (H.Hc.out _).mono ?_
  rintro e w' ⟨rfl, rfl⟩
  go_wp2_with fail
  refine (H.Hax.out _).mono ?_
  rintro e w' ⟨rfl, rfl⟩
  go_wp2_with fail
  refine (H.Hxb.out _).mono ?_
  rintro e w' ⟨rfl, rfl⟩
  go_wp2_with fail
  refine (H.Hm.out _).mono ?_
  rintro e w' ⟨rfl, hs2⟩
  go_wp2_with fail
  refine (Hac.out _).mono ?_
  rintro e w' ⟨rfl, rfl⟩
  go_wp2_with fail
  refine (Hcb.out _).mono ?_
  rintro e w' ⟨rfl, rfl⟩
  go_wp2
  go_ret
  exact ⟨rfl, (hs1.trans hs2).below _⟩
set_option maxHeartbeats 1000000 in
theorem short_B (a b c X : ByteArray) (N : Nat) (v : Int) (w : World) (h1 : a.size ≤ 2000) (h2 : b.size ≤ 2000) (h3 : c.size ≤ 2000) (H : ShortIn a b X N v) (v0 : -1 ≤ v) (v1 : v ≤ 0) (hN : N ≤ 2000) (hle : X.size ≤ b.size)
    (g1 : ((X.size : Int) != (N : Int) + 1) = false) (g2 : decide (b.size < X.size) = false) (g3 : ((b.extract 0 X.size).toList == X.toList) = true) (Hac : Hid (∀ w, Calls Try.prog 17 #[.string a, .string c] w fun e w' => e = .returned (.int .i64 (-1)) ∧ w = w')) (Hcb : Hid (∀ w, Calls Try.prog 17 #[.string c, .string b] w fun e w' => e = .returned (.int .i64 1) ∧ w = w')) :
    Calls Try.prog 7 #[.string a, .string b, .string c] w fun e w' => e = .returned (.bool true) ∧ Below w.heap.size w w' := by
  go_enter Try.func7, Try.ntmps7
  go_wp2_with fail
  refine (awake_any _).mono ?_
  rintro e w' ⟨rfl, rfl⟩
  go_wp2_with fail
  refine (H.Hb.out _).mono ?_
  rintro e w' ⟨rfl, hs1⟩
  go_wp2_with fail
  refine (H.Hc.out _).mono ?_
  rintro e w' ⟨rfl, rfl⟩
  go_wp2_with fail
  refine (H.Hax.out _).mono ?_
  rintro e w' ⟨rfl, rfl⟩
  go_wp2_with fail
  refine (H.Hxb.out _).mono ?_
  rintro e w' ⟨rfl, rfl⟩
  go_wp2_with fail
  refine (H.Hm.out _).mono ?_
  rintro e w' ⟨rfl, hs2⟩
  go_wp2_with fail
  refine (Hac.out _).mono ?_
  rintro e w' ⟨rfl, rfl⟩
  go_wp2_with fail
  refine (Hcb.out _).mono ?_
  rintro e w' ⟨rfl, rfl⟩
  go_wp2
  go_ret
  exact ⟨rfl, (hs1.trans hs2).below _⟩
set_option maxHeartbeats 1000000 in
theorem short_C (a b c X : ByteArray) (N : Nat) (v : Int) (w : World) (h1 : a.size ≤ 2000) (h2 : b.size ≤ 2000) (h3 : c.size ≤ 2000) (H : ShortIn a b X N v) (v0 : -1 ≤ v) (v1 : v ≤ 0) (hN : N ≤ 2000) (hle : X.size ≤ b.size)
    (g1 : ((X.size : Int) != (N : Int) + 1) = false) (g2 : decide (b.size < X.size) = false) (g3 : ((b.extract 0 X.size).toList == X.toList) = true) (u : Int) (u0 : 0 ≤ u) (Hac : Hid (∀ w, Calls Try.prog 17 #[.string a, .string c] w fun e w' => e = .returned (.int .i64 u) ∧ w = w')) :
    Calls Try.prog 7 #[.string a, .string b, .string c] w fun e w' => e = .returned (.bool true) ∧ Below w.heap.size w w' := by
  go_enter Try.func7, Try.ntmps7
  go_wp2_with fail
  refine (awake_any _).mono ?_
  rintro e w' ⟨rfl, rfl⟩
  go_wp2_with fail
  refine (H.Hb.out _).mono ?_
  rintro e w' ⟨rfl, hs1⟩
  go_wp2_with fail
  refine (H.Hc.out _).mono ?_
  rintro e w' ⟨rfl, rfl⟩
  go_wp2_with fail
  refine (H.Hax.out _).mono ?_
  rintro e w' ⟨rfl, rfl⟩
  go_wp2_with fail
  refine (H.Hxb.out _).mono ?_
  rintro e w' ⟨rfl, rfl⟩
  go_wp2_with fail
  refine (H.Hm.out _).mono ?_
  rintro e w' ⟨rfl, hs2⟩
  go_wp2_with fail
  refine (Hac.out _).mono ?_
  rintro e w' ⟨rfl, rfl⟩
  go_wp2
  go_ret
  exact ⟨rfl, (hs1.trans hs2).below _⟩

theorem keysShort_walk (a b c : ByteArray) (ra : a.size ≤ 140737488351232) (rb : b.size ≤ 140737488351232) (rc : c.size ≤ 140737488351232) (w : World) :
    Calls Try.prog 7 #[.string a, .string b, .string c] w fun e w' => e = .returned (.bool true) ∧ Below w.heap.size w w' := by
  have la : a.size < maxLen := by unfold maxLen; omega
  have lb : b.size < maxLen := by unfold maxLen; omega
  have lc : c.size < maxLen := by unfold maxLen; omega
  rcases (show 2000 < a.size ∨ (a.size ≤ 2000 ∧ 2000 < b.size) ∨ (a.size ≤ 2000 ∧ b.size ≤ 2000 ∧ 2000 < c.size) ∨ (a.size ≤ 2000 ∧ b.size ≤ 2000 ∧ c.size ≤ 2000) from by omega) with h1 | ⟨h1, h2⟩ | ⟨h1, h2, h3⟩ | ⟨h1, h2, h3⟩
  iterate 3
    · go_enter Try.func7, Try.ntmps7
      go_wp2_with (go_at_call 11; refine (awake_any _).mono ?_; rintro e w' ⟨rfl, rfl⟩)
      go_ret
      exact ⟨rfl, Below.refl _ _⟩
  by_cases h : a.data.toList < b.data.toList
  · obtain ⟨X, N, p⟩ := parts_of h
    obtain ⟨v, hv, v0, v1⟩ := cmp_le_of p.hi
    have H : ShortIn a b X N v := ⟨Lib.hid (p.between h (by omega) (by omega)), Lib.hid (compare_at a b _ (cmp_lt h)), Lib.hid (compare_at a X _ (cmp_lt p.lo)), Lib.hid (compare_at X b v hv), Lib.hid (common_at a b N p.com (by omega) (by omega))⟩
    have hs := p.size
    have hle := p.le
    have g1 : ((X.size : Int) != (N : Int) + 1) = false := by simp; omega
    have g2 : decide (b.size < X.size) = false := by simp; omega
    have g3 : ((b.extract 0 X.size).toList == X.toList) = true := by rw [hs, ← p.pre]; simp
    by_cases hac : a.data.toList < c.data.toList
    · by_cases hbc : b.data.toList < c.data.toList
      · exact short_B a b c X N v w h1 h2 h3 H v0 v1 (by omega) hle g1 g2 g3 (Lib.hid (compare_at a c _ (cmp_lt hac))) (Lib.hid (compare_at c b _ (cmp_gt hbc)))
      · obtain ⟨u, hu, _, hu1⟩ := cmp_le_of hbc
        have hl := short_len hac hbc
        rw [p.com, ba_len] at hl
        exact short_A a b c X N v w h1 h2 h3 H v0 v1 (by omega) hle g1 g2 g3 u hu1 (Lib.hid (compare_at a c _ (cmp_lt hac))) (Lib.hid (compare_at c b u hu)) (by simp; omega)
    · obtain ⟨u, hu, hu0, _⟩ := cmp_ge_of hac
      exact short_C a b c X N v w h1 h2 h3 H v0 v1 (by omega) hle g1 g2 g3 u hu0 (Lib.hid (compare_at a c u hu))
  · exact short_no a b c w h1 h2 h3 h
end Go.Proofs.Ytiimchhbbjlegaa
