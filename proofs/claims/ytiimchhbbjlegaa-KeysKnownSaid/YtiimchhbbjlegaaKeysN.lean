/- The walk of the law KeysNext; what is above a text. -/
import Derived.Test.YtiimchhbbjlegaaKeysL1
set_option linter.unusedVariables false
set_option linter.unusedSimpArgs false
namespace Go.Proofs.Ytiimchhbbjlegaa
open Go.RowKit
open Go.Lib (compareBytes)
set_option linter.unusedVariables false

theorem compare_at (a b : ByteArray) (v : Int) (h : compareBytes a.data.toList b.data.toList = v) (w : World) :
    Calls Try.prog 17 #[.string a, .string b] w fun e w' => e = .returned (.int .i64 v) ∧ w = w' := by
  subst h; exact compare_any a b w
theorem after_list (a : ByteArray) : (a ++ ⟨#[0]⟩ : ByteArray).data.toList = a.data.toList ++ [0] := by simp
theorem after_size (a : ByteArray) : (a ++ ⟨#[0]⟩ : ByteArray).size = a.size + 1 := by rw [ByteArray.size_append]; rfl
theorem lt_after : ∀ (a : List UInt8), a < a ++ [0]
  | [] => by simp
  | a :: x => by rw [List.cons_append, lt_cons]; exact .inr ⟨rfl, lt_after x⟩
theorem com_after (a : List UInt8) : com a (a ++ [0]) = a.length :=
  com_eq _ _ _ (Nat.le_refl _) (by simp) (fun i hi => by rw [List.getElem?_append_left hi]) (.inl rfl)
/-- Between a text and what is above it lies none. -/
theorem after_le : ∀ {a c : List UInt8}, a < c → ¬ c < a ++ [0]
  | [], [], h => by simp at h
  | [], c :: y, _ => by
    rw [List.nil_append, lt_cons]
    rintro (h | ⟨_, h⟩)
    · rw [UInt8.lt_iff_toNat_lt] at h; exact absurd h (by simp)
    · simp at h
  | a :: x, [], h => by simp at h
  | a :: x, c :: y, h => by
    rw [lt_cons] at h
    rw [List.cons_append, lt_cons]
    rintro (k | ⟨e, k⟩)
    · rcases h with h | ⟨e, h⟩
      · rw [UInt8.lt_iff_toNat_lt] at h k; omega
      · subst e; exact UInt8.lt_irrefl _ k
    · subst e
      rcases h with h | ⟨_, h⟩
      · exact UInt8.lt_irrefl _ h
      · exact after_le h k
theorem after_mono : ∀ {a c : List UInt8}, a < c → a ++ [0] < c ++ [0]
  | [], [], h => by simp at h
  | [], c :: y, _ => by
    rw [List.nil_append, List.cons_append, lt_cons]
    by_cases e : (0 : UInt8) = c
    · exact .inr ⟨e, by cases y <;> simp⟩
    · refine .inl ?_
      rw [UInt8.lt_iff_toNat_lt]
      have : c.toNat ≠ 0 := fun h => e (UInt8.toNat_inj.1 (by rw [h]; rfl))
      exact Nat.pos_of_ne_zero this
  | a :: x, [], h => by simp at h
  | a :: x, c :: y, h => by
    rw [lt_cons] at h
    rw [List.cons_append, List.cons_append, lt_cons]
    rcases h with h | ⟨e, h⟩
    · exact .inl h
    · exact .inr ⟨e, after_mono h⟩

set_option maxHeartbeats 1000000 in
theorem keysNext_walk (a c : ByteArray) (ra : a.size ≤ 140737488351232) (rc : c.size ≤ 140737488351232) (w : World) :
    Calls Try.prog 6 #[.string a, .string c] w fun e w' => e = .returned (.bool true) ∧ Below w.heap.size w w' := by
  have la : a.size < maxLen := by unfold maxLen; omega
  have lc : c.size < maxLen := by unfold maxLen; omega
  rcases (show 2000 < a.size ∨ (a.size ≤ 2000 ∧ 2000 < c.size) ∨ (a.size ≤ 2000 ∧ c.size ≤ 2000) from by omega) with h1 | ⟨h1, h2⟩ | ⟨h1, h2⟩
  iterate 2
    · go_enter Try.func6, Try.ntmps6
      go_wp2_with (go_at_call 11; refine (awake_any _).mono ?_; rintro e w' ⟨rfl, rfl⟩)
      go_ret
      exact ⟨rfl, Below.refl _ _⟩
  obtain ⟨x, hx⟩ : ∃ x : ByteArray, x = a ++ ⟨#[0]⟩ := ⟨_, rfl⟩
  obtain ⟨y, hy⟩ : ∃ y : ByteArray, y = c ++ ⟨#[0]⟩ := ⟨_, rfl⟩
  have bx : x.data.toList = a.data.toList ++ [0] := by rw [hx, after_list]
  have bY : y.data.toList = c.data.toList ++ [0] := by rw [hy, after_list]
  have sx : x.size = a.size + 1 := by rw [hx, after_size]
  have HX := Lib.hid (show ∀ w, Calls Try.prog 18 #[.string a] w fun e w' => e = .returned (.string x) ∧ w = w' from fun w => by rw [hx]; exact after_any a w la)
  have HY := Lib.hid (show ∀ w, Calls Try.prog 18 #[.string c] w fun e w' => e = .returned (.string y) ∧ w = w' from fun w => by rw [hy]; exact after_any c w lc)
  have Hax := Lib.hid (compare_at a x (-1) (by rw [bx]; exact cmp_lt (lt_after _)))
  have Hcm := Lib.hid (common_at a x a.size (by rw [bx, com_after, ba_len]) (by omega) (by unfold maxLen at *; omega))
  have hsz : ((x.size : Int) != (a.size : Int) + 1) = false := by rw [sx]; simp
  have hne : (x.size != a.size + 1) = false := by rw [sx]; simp
  have Hxy : Hid (compareBytes a.data.toList c.data.toList = compareBytes x.data.toList y.data.toList) := by
    refine Lib.hid ?_
    rw [bx, bY]
    rcases lt_tri a.data.toList c.data.toList with h | h | h
    · rw [cmp_lt h, cmp_lt (after_mono h)]
    · rw [h, cmp_self, cmp_self]
    · rw [cmp_gt h, cmp_gt (after_mono h)]
  rcases lt_tri a.data.toList c.data.toList with h | h | h
  · have Hac := Lib.hid (compare_at a c (-1) (cmp_lt h))
    have Hca := Lib.hid (compare_at c a 1 (cmp_gt h))
    obtain ⟨v, hv, hv0⟩ : ∃ v : Int, compareBytes c.data.toList x.data.toList = v ∧ 0 ≤ v := by
      refine ⟨_, rfl, ?_⟩
      rw [bx]
      rcases lt_tri c.data.toList (a.data.toList ++ [0]) with k | k | k
      · exact absurd k (after_le h)
      · rw [k, cmp_self]; omega
      · rw [cmp_gt k]; omega
    have Hcx := Lib.hid (compare_at c x v hv)
    have Hxy' := Lib.hid (compare_at x y (-1) (by rw [← Hxy.out, cmp_lt h]))
    clear hx hy bx bY sx h hv
    go_enter Try.func6, Try.ntmps6
    go_wp2_with fail
    refine (awake_any _).mono ?_
    rintro e w' ⟨rfl, rfl⟩
    go_wp2_with fail
    refine (HX.out _).mono ?_
    rintro e w' ⟨rfl, rfl⟩
    go_wp2_with fail
    refine (Hax.out _).mono ?_
    rintro e w' ⟨rfl, rfl⟩
    go_wp2_with fail
    refine (Hcm.out _).mono ?_
    rintro e w' ⟨rfl, ⟨n1, rfl⟩⟩
    go_wp2_with fail
    refine (Hac.out _).mono ?_
    rintro e w' ⟨rfl, rfl⟩
    go_wp2_with fail
    refine (Hcx.out _).mono ?_
    rintro e w' ⟨rfl, rfl⟩
    go_wp2_with fail
    refine (Hac.out _).mono ?_
    rintro e w' ⟨rfl, rfl⟩
    go_wp2_with fail
    refine (HY.out _).mono ?_
    rintro e w' ⟨rfl, rfl⟩
    go_wp2_with fail
    refine (Hxy'.out _).mono ?_
    rintro e w' ⟨rfl, rfl⟩
    go_wp2_with fail
    refine (Hca.out _).mono ?_
    rintro e w' ⟨rfl, rfl⟩
    go_wp2_with fail
    refine (Hcx.out _).mono ?_
    rintro e w' ⟨rfl, rfl⟩
    go_wp2
    go_ret
    exact ⟨rfl, below_drewN (Below.refl _ _) _⟩
  · have Hac := Lib.hid (compare_at a c 0 (by rw [h, cmp_self]))
    have Hca := Lib.hid (compare_at c a 0 (by rw [h, cmp_self]))
    have Hcx := Lib.hid (compare_at c x (-1) (by rw [bx, h]; exact cmp_lt (lt_after _)))
    have Hxy' := Lib.hid (compare_at x y 0 (by rw [← Hxy.out, h, cmp_self]))
    clear hx hy bx bY sx h
    go_enter Try.func6, Try.ntmps6
    go_wp2_with fail
    refine (awake_any _).mono ?_
    rintro e w' ⟨rfl, rfl⟩
    go_wp2_with fail
    refine (HX.out _).mono ?_
    rintro e w' ⟨rfl, rfl⟩
    go_wp2_with fail
    refine (Hax.out _).mono ?_
    rintro e w' ⟨rfl, rfl⟩
    go_wp2_with fail
    refine (Hcm.out _).mono ?_
    rintro e w' ⟨rfl, ⟨n1, rfl⟩⟩
    go_wp2_with fail
    refine (Hac.out _).mono ?_
    rintro e w' ⟨rfl, rfl⟩
    go_wp2_with fail
    refine (Hac.out _).mono ?_
    rintro e w' ⟨rfl, rfl⟩
    go_wp2_with fail
    refine (HY.out _).mono ?_
    rintro e w' ⟨rfl, rfl⟩
    go_wp2_with fail
    refine (Hxy'.out _).mono ?_
    rintro e w' ⟨rfl, rfl⟩
    go_wp2_with fail
    refine (Hca.out _).mono ?_
    rintro e w' ⟨rfl, rfl⟩
    go_wp2_with fail
    refine (Hcx.out _).mono ?_
    rintro e w' ⟨rfl, rfl⟩
    go_wp2
    go_ret
    exact ⟨rfl, below_drewN (Below.refl _ _) _⟩
  · have Hac := Lib.hid (compare_at a c 1 (cmp_gt h))
    have Hca := Lib.hid (compare_at c a (-1) (cmp_lt h))
    have Hcx := Lib.hid (compare_at c x (-1) (by rw [bx]; exact cmp_lt (lt_trans h (lt_after _))))
    have Hxy' := Lib.hid (compare_at x y 1 (by rw [← Hxy.out, cmp_gt h]))
    clear hx hy bx bY sx h
    go_enter Try.func6, Try.ntmps6
    go_wp2_with fail
    refine (awake_any _).mono ?_
    rintro e w' ⟨rfl, rfl⟩
    go_wp2_with fail
    refine (HX.out _).mono ?_
    rintro e w' ⟨rfl, rfl⟩
    go_wp2_with fail
    refine (Hax.out _).mono ?_
    rintro e w' ⟨rfl, rfl⟩
    go_wp2_with fail
    refine (Hcm.out _).mono ?_
    rintro e w' ⟨rfl, ⟨n1, rfl⟩⟩
    go_wp2_with fail
    refine (Hac.out _).mono ?_
    rintro e w' ⟨rfl, rfl⟩
    go_wp2_with fail
    refine (Hac.out _).mono ?_
    rintro e w' ⟨rfl, rfl⟩
    go_wp2_with fail
    refine (HY.out _).mono ?_
    rintro e w' ⟨rfl, rfl⟩
    go_wp2_with fail
    refine (Hxy'.out _).mono ?_
    rintro e w' ⟨rfl, rfl⟩
    go_wp2_with fail
    refine (Hca.out _).mono ?_
    rintro e w' ⟨rfl, rfl⟩
    go_wp2_with fail
    refine (Hcx.out _).mono ?_
    rintro e w' ⟨rfl, rfl⟩
    go_wp2
    go_ret
    exact ⟨rfl, below_drewN (Below.refl _ _) _⟩
end Go.Proofs.Ytiimchhbbjlegaa
