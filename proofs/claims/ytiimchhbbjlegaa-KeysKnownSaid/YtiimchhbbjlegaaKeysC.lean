/- The contracts of the order's functions of layer 1 (keys) and of the document's own: Compare, Common, After, Between; Less, Compare, Common, Between. -/
import Derived.Test.YtiimchhbbjlegaaProg
import Derived.Test.YtiimchhbbjlegaaKeysM
import Derived.WalkKit
import Derived.WalkSpells
import Derived.WalkLawsBesides
import Derived.BigQuiet
import Derived.Lib.Hide
import Derived.IntWalk
import Derived.Deep.QuietTactic
set_option linter.unusedVariables false
set_option linter.unusedSimpArgs false
namespace Go.Proofs.Ytiimchhbbjlegaa
open Go.RowKit
open Go.Lib (compareBytes)

theorem ba_get (a : ByteArray) (k : Nat) (h : k < a.size) : a.data.toList[k]? = some a[k] := by
  rw [List.getElem?_eq_getElem (by simpa using h)]; rfl
theorem ba_len (a : ByteArray) : a.data.toList.length = a.size := by simp
theorem neq_yes {a b : ByteArray} {k : Nat} (ha : k < a.size) (hb : k < b.size) (h : ((a[k].toNat : Int) != (b[k].toNat : Int)) = true) : a.data.toList[k]? ≠ b.data.toList[k]? := by
  rw [ba_get a k ha, ba_get b k hb]
  intro e
  have e : a[k] = b[k] := by simpa using e
  simp [e] at h
theorem neq_no {a b : ByteArray} {k : Nat} (ha : k < a.size) (hb : k < b.size) (h : ((a[k].toNat : Int) != (b[k].toNat : Int)) = false) : a.data.toList[k]? = b.data.toList[k]? := by
  have e : (a[k].toNat : Int) = (b[k].toNat : Int) := by simpa using h
  have e : a[k] = b[k] := UInt8.toNat_inj.1 (by omega)
  rw [ba_get a k ha, ba_get b k hb, e]
theorem less_eq (x y : List UInt8) : Op.bytesLess x y = decide (x < y) := by
  induction x generalizing y with
  | nil => cases y <;> simp [Op.bytesLess]
  | cons a x ih =>
    cases y with
    | nil => simp [Op.bytesLess]
    | cons b y => rw [Op.bytesLess, ih, Bool.eq_iff_iff]; simp [lt_cons]
theorem ret_i64 {a b : Int} (h : a = b) : Ending.returned (.int .i64 a) = .returned (.int .i64 b) := by rw [h]
theorem ret_bool {a b : Bool} (h : a = b) : Ending.returned (.bool a) = .returned (.bool b) := by rw [h]

set_option maxHeartbeats 400000 in
theorem common_any (a b : ByteArray) (w : World) (ha : a.size ≤ maxLen) (hb : b.size ≤ maxLen) :
    Calls Try.prog 12 #[.string a, .string b] w fun e w' => e = .returned (.int .i64 (com a.data.toList b.data.toList)) ∧ ∃ n, w' = w.drewN n := by
  unfold maxLen at ha hb
  have hl : (((a.size : Int) ≤ (b.size : Int))) ∨ (((b.size : Int) < (a.size : Int))) := by omega
  rcases hl with h1 | h1
  all_goals
    go_enter Try.func12, Try.ntmps12
    go_wp2
    go_loopw [4, 13] (fun t i wr => ∃ k : Nat, k ≤ a.size ∧ k ≤ b.size ∧ k ≤ com a.data.toList b.data.toList ∧ i = .int .i64 k ∧ t = .int .i64 0 ∧ ∃ n, wr = w.drewN n) (fun _ i _ => a.size - (intOf i).toNat)
    case atStart => exact ⟨0, Nat.zero_le _, Nat.zero_le _, Nat.zero_le _, rfl, rfl, 0, rfl⟩
    case round =>
      obtain ⟨k, hk1, hk2, hk3, rfl, rfl, n, rfl⟩ := hrel
      by_cases hlt : k < a.size ∧ k < b.size
      · obtain ⟨hlt, hlt2⟩ := hlt
        go_wp2
        go_quiet (fail)
        go_wp2
        · go_ret
          exact ⟨ret_i64 (by rw [com_eq _ _ k (by simpa using hk1) (by simpa using hk2) (fun i hi => com_get _ _ i (by omega)) (.inr (.inr (neq_yes hlt hlt2 ‹_›)))]), _, World.drewN_drewN _ _ _⟩
        · go_roundw
          case rel => exact ⟨k + 1, by omega, by omega, com_succ _ _ k (by simpa using hlt) (by simpa using hlt2) hk3 (neq_no hlt hlt2 ‹_›), by go_num, rfl, _, rfl⟩
          case measure => simp [intOf]; omega
      · go_wp2
        go_ret
        exact ⟨ret_i64 (by rw [com_eq _ _ k (by simpa using hk1) (by simpa using hk2) (fun i hi => com_get _ _ i (by omega)) (by simp only [ba_len]; omega)]; omega), _, rfl⟩

set_option maxHeartbeats 400000 in
theorem compare_any (a b : ByteArray) (w : World) :
    Calls Try.prog 17 #[.string a, .string b] w fun e w' => e = .returned (.int .i64 (compareBytes a.data.toList b.data.toList)) ∧ w = w' := by
  go_enter Try.func17, Try.ntmps17
  go_wp2
  rw [run_callFunc_extern Try.func39 (by kernel_rfl) (by kernel_rfl) (by kernel_rfl) (e := Extern.BytealgCompare.compare) (by kernel_rfl), Lib.run_compareString]
  simp only [Result.andThen]
  rw [Oper.upon_value]
  go_wp2
  go_ret
  exact ⟨rfl, rfl⟩

set_option maxHeartbeats 400000 in
theorem after_any (a : ByteArray) (w : World) (ha : a.size < maxLen) :
    Calls Try.prog 18 #[.string a] w fun e w' => e = .returned (.string (a ++ ⟨#[0]⟩)) ∧ w = w' := by
  unfold maxLen at ha
  go_enter Try.func18, Try.ntmps18
  go_wp2
  go_ret
  exact ⟨rfl, rfl⟩

set_option maxHeartbeats 400000 in
theorem between_no (a b : ByteArray) (w : World) (h : ¬ a.data.toList < b.data.toList) :
    Calls Try.prog 19 #[.string a, .string b] w fun e w' => e = .returned (.tuple #[.string ⟨#[]⟩, .bool false]) ∧ w = w' := by
  have h' : Op.bytesLess a.toList b.toList = false := by rw [less_eq, Lib.toList_data, Lib.toList_data]; simpa using h
  go_enter Try.func19, Try.ntmps19
  go_wp2
  go_ret2
  exact ⟨rfl, rfl⟩

set_option maxHeartbeats 400000 in
theorem between_yes (a b : ByteArray) (w : World) (h : a.data.toList < b.data.toList) (ha : a.size ≤ maxLen) (hb : b.size ≤ maxLen) :
    Calls Try.prog 19 #[.string a, .string b] w fun e w' => e = .returned (.tuple #[.string (b.extract 0 (com a.data.toList b.data.toList + 1)), .bool true]) ∧ ∃ n, w' = w.drewN n := by
  have h' : Op.bytesLess a.toList b.toList = true := by rw [less_eq, Lib.toList_data, Lib.toList_data]; simpa using h
  have h1 := ((lt_com _ _).1 h).1
  rw [ba_len] at h1
  have hb' := hb
  unfold maxLen at hb'
  have e1 : IntKind.i64.wrap ((com a.data.toList b.data.toList : Int) + 1) = (com a.data.toList b.data.toList : Int) + 1 := IntWalk.i64_in _ (by omega)
  have e2 : ((com a.data.toList b.data.toList : Int) + 1).toNat = com a.data.toList b.data.toList + 1 := by omega
  go_enter Try.func19, Try.ntmps19
  go_wp2_with (go_at_call 12; refine (common_any a b _ ha hb).mono ?_; rintro e w' ⟨rfl, n, rfl⟩)
  go_ret2
  exact ⟨rfl, _, rfl⟩
end Go.Proofs.Ytiimchhbbjlegaa
