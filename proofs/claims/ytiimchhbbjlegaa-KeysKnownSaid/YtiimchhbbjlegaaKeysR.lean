/- The contracts of the document's own answers of layer 1 (keys): Less, Compare, Common, Between. -/
import Derived.Test.YtiimchhbbjlegaaKeysC
import Derived.PlainAid
set_option linter.unusedVariables false
set_option linter.unusedSimpArgs false
namespace Go.Proofs.Ytiimchhbbjlegaa
open Go.RowKit
open Go.Lib (compareBytes)
set_option linter.unusedVariables false

theorem part_lt {a b : ByteArray} {k : Nat} (ha : k < a.size) (hb : k < b.size) (hk : k ≤ com a.data.toList b.data.toList) (h : a.data.toList[k]? ≠ b.data.toList[k]?) :
    ltB a.data.toList b.data.toList = decide (a[k].toNat < b[k].toNat) := by
  have hc : com a.data.toList b.data.toList = k := com_eq _ _ k (by simpa using Nat.le_of_lt ha) (by simpa using Nat.le_of_lt hb) (fun i hi => com_get _ _ i (by omega)) (.inr (.inr h))
  rw [Bool.eq_iff_iff, ltB, decide_eq_true_iff, decide_eq_true_iff, lt_com, hc, ba_get a k ha, ba_get b k hb, ba_len, ba_len]
  simp only [Option.getD_some, UInt8.lt_iff_toNat_lt]
  omega
theorem end_lt {a b : ByteArray} {k : Nat} (hk : k ≤ com a.data.toList b.data.toList) (h : a.size ≤ k ∨ b.size ≤ k) :
    ltB a.data.toList b.data.toList = decide (a.size < b.size) := by
  have h1 := com_le_l a.data.toList b.data.toList
  have h2 := com_le_r a.data.toList b.data.toList
  rw [ba_len] at h1 h2
  rw [Bool.eq_iff_iff, ltB, decide_eq_true_iff, decide_eq_true_iff, lt_com, ba_len, ba_len]
  constructor
  · rintro ⟨h3, _⟩; omega
  · intro h3; exact ⟨by omega, .inl (by omega)⟩

set_option maxHeartbeats 400000 in
theorem less_any (a b : ByteArray) (w : World) (ha : a.size ≤ maxLen) (hb : b.size ≤ maxLen) :
    Calls Try.prog 26 #[.string a, .string b] w fun e w' => e = .returned (.bool (ltB a.data.toList b.data.toList)) ∧ ∃ n, w' = w.drewN n := by
  unfold maxLen at ha hb
  go_enter Try.func26, Try.ntmps26
  go_wp2
  go_loopw [5] (fun i wr => ∃ k : Nat, k ≤ a.size ∧ k ≤ b.size ∧ k ≤ com a.data.toList b.data.toList ∧ i = .int .i64 k ∧ ∃ n, wr = w.drewN n) (fun i _ => a.size - (intOf i).toNat)
  case atStart => exact ⟨0, Nat.zero_le _, Nat.zero_le _, Nat.zero_le _, rfl, 0, rfl⟩
  case round =>
    obtain ⟨k, hk1, hk2, hk3, rfl, n, rfl⟩ := hrel
    by_cases hlt : k < a.size ∧ k < b.size
    · obtain ⟨hlt, hlt2⟩ := hlt
      go_wp2
      go_quiet (fail)
      go_wp2
      · have hp := part_lt hlt hlt2 hk3 (neq_yes hlt hlt2 ‹_›)
        have HP := Lib.hid hp
        clear hp
        go_quiet (fail)
        go_wp2
        go_ret
        exact ⟨ret_bool (by rw [HP.out]), _, by rw [World.drewN_drewN, World.drewN_drewN]⟩
      · go_roundw
        case rel => exact ⟨k + 1, by omega, by omega, com_succ _ _ k (by simpa using hlt) (by simpa using hlt2) hk3 (neq_no hlt hlt2 ‹_›), by go_num, _, rfl⟩
        case measure => simp [intOf]; omega
    · have HP := Lib.hid (end_lt hk3 (show a.size ≤ k ∨ b.size ≤ k by omega))
      go_wp2
      all_goals
        go_ret
        exact ⟨ret_bool (by rw [HP.out]), _, rfl⟩

theorem cmp_ltB (a b : List UInt8) : compareBytes a b = if ltB a b = true then -1 else if ltB b a = true then 1 else 0 := by
  rw [cmp_eq_if]; simp [ltB]

set_option maxHeartbeats 400000 in
theorem rcompare_any (a b : ByteArray) (w : World) (ha : a.size ≤ maxLen) (hb : b.size ≤ maxLen) :
    Calls Try.prog 21 #[.string a, .string b] w fun e w' => e = .returned (.int .i64 (compareBytes a.data.toList b.data.toList)) ∧ ∃ n, w' = w.drewN n := by
  have HC := Lib.hid (cmp_ltB a.data.toList b.data.toList)
  go_enter Try.func21, Try.ntmps21
  go_wp2_with fail
  refine (less_any a b _ ha hb).mono ?_
  rintro e w' ⟨rfl, n, rfl⟩
  cases h1 : ltB a.data.toList b.data.toList with
  | true =>
    rw [h1] at HC
    go_wp2
    go_ret
    exact ⟨ret_i64 (by rw [HC.out]; rfl), _, rfl⟩
  | false =>
    go_wp2_with fail
    refine (less_any b a _ hb ha).mono ?_
    rintro e w' ⟨rfl, n, rfl⟩
    cases h2 : ltB b.data.toList a.data.toList with
    | true =>
      rw [h1, h2] at HC
      go_wp2
      go_ret
      exact ⟨ret_i64 (by rw [HC.out]; rfl), _, rfl⟩
    | false =>
      rw [h1, h2] at HC
      go_wp2
      go_ret
      exact ⟨ret_i64 (by rw [HC.out]; rfl), _, rfl⟩

theorem eql_no {a b : ByteArray} {k : Nat} (ha : k < a.size) (hb : k < b.size) (h : a.data.toList[k]? ≠ b.data.toList[k]?) : ((a[k].toNat : Int) == (b[k].toNat : Int)) = false := by
  rw [ba_get a k ha, ba_get b k hb] at h
  simp only [beq_eq_false_iff_ne, ne_eq]
  intro e
  exact h (by rw [UInt8.toNat_inj.1 (by omega : a[k].toNat = b[k].toNat)])
theorem eql_yes {a b : ByteArray} {k : Nat} (ha : k < a.size) (hb : k < b.size) (h : a.data.toList[k]? = b.data.toList[k]?) : ((a[k].toNat : Int) == (b[k].toNat : Int)) = true := by
  rw [ba_get a k ha, ba_get b k hb] at h
  have e : a[k] = b[k] := by simpa using h
  rw [e]; simp

set_option maxHeartbeats 800000 in
theorem rcommon_any (a b : ByteArray) (w : World) (ha : a.size ≤ maxLen) (hb : b.size ≤ maxLen) :
    Calls Try.prog 22 #[.string a, .string b] w fun e w' => e = .returned (.int .i64 (com a.data.toList b.data.toList)) ∧ ∃ n, w' = w.drewN n := by
  unfold maxLen at ha hb
  go_enter Try.func22, Try.ntmps22
  go_wp2
  go_loopw [5] (fun i wr => ∃ k : Nat, k ≤ a.size ∧ k ≤ b.size ∧ k ≤ com a.data.toList b.data.toList ∧ i = .int .i64 k ∧ ∃ n, wr = w.drewN n) (fun i _ => a.size - (intOf i).toNat)
  case atStart => exact ⟨0, Nat.zero_le _, Nat.zero_le _, Nat.zero_le _, rfl, 0, rfl⟩
  case round =>
    obtain ⟨k, hk1, hk2, hk3, rfl, n, rfl⟩ := hrel
    by_cases hlt : k < a.size
    · by_cases hlt2 : k < b.size
      · have g1 : decide (k < a.size) = true := by simpa using hlt
        have g2 : decide (k < b.size) = true := by simpa using hlt2
        by_cases hq : a.data.toList[k]? = b.data.toList[k]?
        · have g3 := eql_yes hlt hlt2 hq
          have HQ := Lib.hid hq
          clear hq
          go_wp2
          go_quiet (fail)
          go_wp2
          go_roundw
          case rel => exact ⟨k + 1, by omega, by omega, com_succ _ _ k (by simpa using hlt) (by simpa using hlt2) hk3 HQ.out, by go_num, _, rfl⟩
          case measure => simp [intOf]; omega
        · have g3 := eql_no hlt hlt2 hq
          have HQ := Lib.hid hq
          clear hq
          go_wp2
          go_quiet (fail)
          go_wp2
          go_ret
          exact ⟨ret_i64 (by rw [com_eq _ _ k (by simpa using hk1) (by simpa using hk2) (fun i hi => com_get _ _ i (by omega)) (.inr (.inr HQ.out))]), _, World.drewN_drewN _ _ _⟩
      · have g1 : decide (k < a.size) = true := by simpa using hlt
        have g2 : decide (k < b.size) = false := by simpa using hlt2
        have HE : Hid (com a.data.toList b.data.toList = k) := Lib.hid (by rw [com_eq _ _ k (by simpa using hk1) (by simpa using hk2) (fun i hi => com_get _ _ i (by omega)) (by simp only [ba_len]; omega)])
        go_wp2
        go_quiet (fail)
        go_wp2
        go_ret
        exact ⟨ret_i64 (by rw [HE.out]), _, World.drewN_drewN _ _ _⟩
    · have g1 : decide (k < a.size) = false := by simpa using hlt
      have HE : Hid (com a.data.toList b.data.toList = k) := Lib.hid (by rw [com_eq _ _ k (by simpa using hk1) (by simpa using hk2) (fun i hi => com_get _ _ i (by omega)) (by simp only [ba_len]; omega)])
      go_wp2
      go_quiet (fail)
      go_wp2
      go_ret
      exact ⟨ret_i64 (by rw [HE.out]), _, World.drewN_drewN _ _ _⟩

theorem ext_list (b : ByteArray) (n : Nat) : (b.extract 0 n).data.toList = b.data.toList.take n := by
  rw [Lib.extract_data]; simp

theorem rbetween_no (a b : ByteArray) (w : World) (ha : a.size ≤ maxLen) (hb : b.size < maxLen) (h : ¬ a.data.toList < b.data.toList) :
    Calls Try.prog 20 #[.string a, .string b] w fun e w' => e = .returned (.tuple #[.string ⟨#[]⟩, .bool false]) ∧ ∃ n, w' = w.drewN n := by
  have hb' := hb
  unfold maxLen at hb
  go_enter Try.func20, Try.ntmps20
  go_wp2
  go_loopw [6] (fun i wr => ∃ k : Nat, k ≤ b.size + 1 ∧ i = .int .i64 k ∧ ∃ n, wr = w.drewN n) (fun i _ => b.size + 1 - (intOf i).toNat)
  case atStart => exact ⟨0, by omega, rfl, 0, rfl⟩
  case round =>
    obtain ⟨k, hk1, rfl, n, rfl⟩ := hrel
    by_cases hlt : k ≤ b.size
    · have hz : (b.extract 0 k).size ≤ maxLen := by rw [ByteArray.size_extract]; omega
      have hno : ltB a.data.toList (b.extract 0 k).data.toList = false := ltB_no (by rw [ext_list, lt_take]; exact fun x => h x.1)
      go_wp2_with fail
      refine (less_any a (b.extract 0 k) _ ha hz).mono ?_
      rintro e w' ⟨rfl, m, rfl⟩
      rw [hno]
      clear hno
      go_wp2
      go_roundw
      case rel => exact ⟨k + 1, by omega, by go_num, _, rfl⟩
      case measure => simp [intOf]; omega
    · go_wp2
      go_ret2
      exact ⟨rfl, _, rfl⟩
theorem rbetween_yes (a b : ByteArray) (w : World) (ha : a.size ≤ maxLen) (hb : b.size < maxLen) (h : a.data.toList < b.data.toList) :
    Calls Try.prog 20 #[.string a, .string b] w fun e w' => e = .returned (.tuple #[.string (b.extract 0 (com a.data.toList b.data.toList + 1)), .bool true]) ∧ ∃ n, w' = w.drewN n := by
  have hb' := hb
  unfold maxLen at hb
  have hc := ((lt_com _ _).1 h).1
  rw [ba_len] at hc
  go_enter Try.func20, Try.ntmps20
  go_wp2
  go_loopw [6] (fun i wr => ∃ k : Nat, k ≤ com a.data.toList b.data.toList + 1 ∧ i = .int .i64 k ∧ ∃ n, wr = w.drewN n) (fun i _ => b.size + 1 - (intOf i).toNat)
  case atStart => exact ⟨0, by omega, rfl, 0, rfl⟩
  case round =>
    obtain ⟨k, hk1, rfl, n, rfl⟩ := hrel
    have hz : (b.extract 0 k).size ≤ maxLen := by rw [ByteArray.size_extract]; omega
    by_cases hlt : k = com a.data.toList b.data.toList + 1
    · have hyes : ltB a.data.toList (b.extract 0 k).data.toList = true := ltB_yes (by rw [ext_list, lt_take]; exact ⟨h, by omega⟩)
      have HK := Lib.hid hlt
      have hkb : k ≤ b.size := by omega
      clear hlt
      go_wp2_with fail
      refine (less_any a (b.extract 0 k) _ ha hz).mono ?_
      rintro e w' ⟨rfl, m, rfl⟩
      rw [hyes]
      clear hyes
      go_wp2
      go_ret2
      exact ⟨by rw [← HK.out]; rfl, _, rfl⟩
    · have hno : ltB a.data.toList (b.extract 0 k).data.toList = false := ltB_no (by rw [ext_list, lt_take]; exact fun x => by omega)
      go_wp2_with fail
      refine (less_any a (b.extract 0 k) _ ha hz).mono ?_
      rintro e w' ⟨rfl, m, rfl⟩
      rw [hno]
      clear hno
      go_wp2
      go_roundw
      case rel => exact ⟨k + 1, by omega, by go_num, _, rfl⟩
      case measure => simp [intOf]; omega
end Go.Proofs.Ytiimchhbbjlegaa
