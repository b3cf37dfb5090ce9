/- The contracts of layer 13 (perm): At, Len, Empty, Right. -/
import Derived.Test.YtffeegpjnibdnaaProg
import Derived.Test.YtffeegpjnibdnaaPermM
import Derived.WalkKit
import Derived.WalkSpells
import Derived.WalkLawsBesides
import Derived.BigQuiet
import Derived.Lib.Hide
import Derived.IntWalk
set_option linter.unusedVariables false
set_option linter.unusedSimpArgs false
namespace Go.Proofs.Ytffeegpjnibdnaa
open Go.RowKit
set_option linter.unusedVariables false

theorem and15 (n : Nat) (h : n < 18446744073709551616) : wrap64 (bits .and .u64 (n : Int) 15) = ((n % 16 : Nat) : Int) := by
  have e : bits .and .u64 (n : Int) 15 = ((n % 16 : Nat) : Int) := by
    rw [← nat_mask4]; exact u64_and_nat n 15 h (by omega)
  rw [e, IntWalk.wrap64_in _ (by omega)]
theorem and15' (n : Nat) (h : n < 18446744073709551616) : bits .and .u64 (n : Int) 15 = ((n % 16 : Nat) : Int) := by
  rw [← nat_mask4]; exact u64_and_nat n 15 h (by omega)
theorem nib_shift (p i : Nat) : p / 2 ^ (4 + 4 * i) % 16 = nib p i := by
  unfold nib
  rw [show 4 + 4 * i = 4 * (i + 1) by omega, Nat.pow_mul]
theorem ret_i64p {a b : Int} (h : a = b) : Ending.returned (.int .i64 a) = .returned (.int .i64 b) := by rw [h]

theorem at_in (p i : Nat) (w : World) (hp : p < 18446744073709551616) (hi : i < 15) :
    Calls Try.prog 13 #[.int .u64 p, .int .i64 i] w fun e w' => e = .returned (.int .i64 (nib p i)) ∧ w = w' := by
  have d1 : decide ((i : Int) < 0) = false := by simp
  have d2 : decide (15 ≤ (i : Int)) = false := by simp; omega
  have HE : Hid (wrap64 (bits BinOp.and IntKind.u64 ((p : Int) / 2 ^ (4 + 4 * i)) 15) = (nib p i : Int)) := by
    refine Lib.hid ?_
    have e : ((p : Int) / 2 ^ (4 + 4 * i)) = ((p / 2 ^ (4 + 4 * i) : Nat) : Int) := by simp
    rw [e, and15 _ (Nat.lt_of_le_of_lt (Nat.div_le_self _ _) hp), nib_shift]
  go_enter Try.func13, Try.ntmps13
  go_wp2
  go_ret
  exact ⟨ret_i64p (by rw [← HE.out]), rfl⟩
theorem at_out (p : Nat) (i : Int) (w : World) (hi : i < 0 ∨ 15 ≤ i) :
    Calls Try.prog 13 #[.int .u64 p, .int .i64 i] w fun e w' => e = .returned (.int .i64 (-1)) ∧ w = w' := by
  rcases hi with h | h
  all_goals
    go_enter Try.func13, Try.ntmps13
    go_wp2
    go_ret
    exact ⟨rfl, rfl⟩
theorem len_any (p : Nat) (w : World) (hp : p < 18446744073709551616) :
    Calls Try.prog 15 #[.int .u64 p] w fun e w' => e = .returned (.int .i64 (p % 16 : Nat)) ∧ w = w' := by
  have HE := Lib.hid (and15 p hp)
  go_enter Try.func15, Try.ntmps15
  go_wp2
  go_ret
  exact ⟨ret_i64p (by rw [← HE.out]), rfl⟩

/-! ### A word is made slot by slot -/
theorem wd_take_succ (c : Nat) (l : List Nat) (k : Nat) (hk : k < l.length) : wd c (l.take (k + 1)) = wd c (l.take k) + l.getD k 0 * 16 ^ (k + 1) := by
  have : ∀ (l : List Nat) (k : Nat), k < l.length → dig (l.take (k + 1)) = dig (l.take k) + l.getD k 0 * 16 ^ k := by
    intro l
    induction l with
    | nil => intro k hk; simp at hk
    | cons x r ih =>
      intro k hk
      cases k with
      | zero => simp [dig]
      | succ k =>
        rw [List.take_succ_cons, List.take_succ_cons, dig, dig, ih k (by simpa using hk), Nat.pow_succ]
        simp only [List.getD_cons_succ]
        rw [Nat.mul_add, Nat.mul_comm 16 (r.getD k 0 * 16 ^ k), Nat.mul_assoc]
        omega
  unfold wd
  rw [this l k hk, Nat.pow_succ, ← Nat.mul_assoc, Nat.mul_add]
  omega
theorem wd_take_lt (c : Nat) (l : List Nat) (k : Nat) (hc : c < 16) (h : ∀ x ∈ l, x < 16) (hk : k ≤ l.length) : wd c (l.take k) < 16 ^ (k + 1) := by
  have := dig_lt (l.take k) (fun x hx => h x (List.mem_of_mem_take hx))
  rw [List.length_take, Nat.min_eq_left hk] at this
  unfold wd
  rw [Nat.pow_succ]
  omega
theorem or_slot (c : Nat) (l : List Nat) (k : Nat) (hc : c < 16) (h : ∀ x ∈ l, x < 16) (hl : l.length = 15) (hk : k < 15) :
    bits .or .u64 (wd c (l.take k) : Int) (IntKind.u64.wrap ((l.getD k 0 : Int) * 2 ^ (4 + 4 * k))) = (wd c (l.take (k + 1)) : Int) := by
  have h1 := wd_take_lt c l k hc h (by omega)
  have h2 := wd_take_lt c l (k + 1) hc h (by omega)
  have h3 := wd_take_succ c l k (by omega)
  have hpow : (16 : Nat) ^ (k + 1 + 1) ≤ 16 ^ 16 := Nat.pow_le_pow_right (by omega) (by omega)
  have e16 : (16 : Nat) ^ 16 = 18446744073709551616 := by decide
  have e : (2 : Nat) ^ (4 + 4 * k) = 16 ^ (k + 1) := by rw [show 4 + 4 * k = 4 * (k + 1) by omega, Nat.pow_mul]
  have e' : ((l.getD k 0 : Int) * 2 ^ (4 + 4 * k)) = ((l.getD k 0 * 16 ^ (k + 1) : Nat) : Int) := by rw [← e]; simp
  have e2 : IntKind.u64.wrap (((l.getD k 0 * 16 ^ (k + 1) : Nat) : Int)) = ((l.getD k 0 * 16 ^ (k + 1) : Nat) : Int) := by rw [IntKind.wrap_u64]; omega
  have hmod : (l.getD k 0 * 16 ^ (k + 1)) % 2 ^ (4 + 4 * k) = 0 := by rw [e]; exact Nat.mul_mod_left _ _
  rw [e', e2, u64_or_nat _ _ (by omega) (by omega), Nat.or_comm, nat_join (4 + 4 * k) _ _ hmod (by rw [e]; exact h1), h3, Nat.add_comm]

theorem range_getD (k : Nat) (h : k < 15) : (List.range 15).getD k 0 = k := by
  rw [List.getD_eq_getElem?_getD, List.getElem?_range h]; rfl
theorem empty_any (w : World) :
    Calls Try.prog 9 #[] w fun e w' => e = .returned (.int .u64 17134975606245761280) ∧ w = w' := by
  obtain ⟨l, hl⟩ : ∃ l, l = List.range 15 := ⟨_, rfl⟩
  have HL := Lib.hid hl
  clear hl
  go_enter Try.func9, Try.ntmps9
  go_wp2
  go_loop [1, 3] (fun p i => ∃ k : Nat, k ≤ 15 ∧ i = .int .i64 k ∧ p = .int .u64 (wd 0 (l.take k))) (fun _ i => 15 - (intOf i).toNat)
  case atStart => exact ⟨0, by omega, rfl, rfl⟩
  case round =>
    obtain ⟨k, hk, rfl, rfl⟩ := hrel
    by_cases hlt : k < 15
    · have HO : Hid (bits .or .u64 (wd 0 (l.take k) : Int) (IntKind.u64.wrap ((k : Int) * 2 ^ (4 + 4 * k))) = (wd 0 (l.take (k + 1)) : Int)) := by
        have := or_slot 0 l k (by omega) (by rw [HL.out]; exact fun x hx => by have := List.mem_range.1 hx; omega) (by rw [HL.out]; simp) hlt
        rw [show l.getD k 0 = k by rw [HL.out]; exact range_getD k hlt] at this
        exact Lib.hid this
      go_wp2
      go_round
      case rel => exact ⟨k + 1, by omega, by go_num, by rw [HO.out]⟩
      case measure => simp [intOf]; omega
    · obtain rfl : k = 15 := by omega
      have HO : Hid (wd 0 (l.take 15) = 17134975606245761280) := Lib.hid (by rw [HL.out]; decide)
      go_wp2
      rw [HO.out]
      go_ret
      exact ⟨rfl, rfl⟩

theorem or_bit (s x : Nat) (hs : s < 65536) (hx : x < 16) : bits .or .i64 (s : Int) (wrap64 (2 ^ x)) = ((s ||| 2 ^ x : Nat) : Int) := by
  have hp : 2 ^ x < 2 ^ 16 := Nat.pow_lt_pow_right (by omega) hx
  have e : wrap64 (2 ^ x) = ((2 ^ x : Nat) : Int) := by
    have : (2 : Int) ^ x = ((2 ^ x : Nat) : Int) := by simp
    rw [this]
    generalize 2 ^ x = y at *
    exact IntWalk.wrap64_in _ (by omega)
  rw [e, i64_or_nat _ _ hs (by omega)]
set_option maxHeartbeats 400000 in
theorem right_any (p : Nat) (w : World) (hp : p < 18446744073709551616) :
    Calls Try.prog 12 #[.int .u64 p] w fun e w' => e = .returned (.bool (rt (slots p))) ∧ w = w' := by
  obtain ⟨l, hl⟩ : ∃ l, l = slots p := ⟨_, rfl⟩
  have hlen : l.length = 15 := by rw [hl, slots_length]
  have hlt : ∀ x ∈ l, x < 16 := by rw [hl]; exact slots_lt p
  have hat : ∀ k, k < 15 → l[k]? = some (nib p k) := fun k hk => by rw [hl, slots_get p k hk]
  rw [← hl]
  have HL := Lib.hid hl
  have HT := Lib.hid hlt
  have HA := Lib.hid hat
  have HN := Lib.hid hlen
  obtain ⟨c, hc⟩ : ∃ c, c = p % 16 := ⟨_, rfl⟩
  have hm : decide ((c : Int) ≤ 15) = true := by simp; omega
  have HC : Hid (∀ w, Calls Try.prog 15 #[.int .u64 p] w fun e w' => e = .returned (.int .i64 c) ∧ w = w') := Lib.hid fun w => by rw [hc]; exact len_any p w hp
  clear hl hlt hat hlen hc
  go_enter Try.func12, Try.ntmps12
  go_wp2
  go_loop [3, 5] (fun s i => ∃ k : Nat, k ≤ 15 ∧ i = .int .i64 k ∧ s = .int .i64 (orb (l.take k))) (fun _ i => 15 - (intOf i).toNat)
  case atStart => exact ⟨0, by omega, rfl, rfl⟩
  case round =>
    obtain ⟨k, hk, rfl, rfl⟩ := hrel
    by_cases hlt : k < 15
    · have hnb := nib_lt p k
      obtain ⟨x, hx⟩ : ∃ x, x = nib p k := ⟨_, rfl⟩
      have Hat : Hid (∀ w, Calls Try.prog 13 #[.int .u64 p, .int .i64 k] w fun e w' => e = .returned (.int .i64 x) ∧ w = w') := Lib.hid fun w => by rw [hx]; exact at_in p k w hp hlt
      have hx16 : x < 16 := by omega
      have HO : Hid (orb (l.take (k + 1)) = orb (l.take k) ||| 2 ^ x) := by
        refine Lib.hid ?_
        rw [List.take_add_one, HA.out k hlt, ← hx]
        exact orb_snoc _ _
      have hob := orb_lt (l.take k) (fun y hy => HT.out y (List.mem_of_mem_take hy))
      clear hx hnb
      go_wp2_with fail
      refine (Hat.out _).mono ?_
      rintro e w' ⟨rfl, rfl⟩
      go_wp2
      go_round
      case rel => exact ⟨k + 1, by omega, by go_num, by rw [or_bit _ _ hob hx16, HO.out]⟩
      case measure => simp [intOf]; omega
    · obtain rfl : k = 15 := by omega
      have HE : Hid (l.take 15 = l) := Lib.hid (List.take_of_length_le (by rw [HN.out]; omega))
      rw [HE.out]
      have hob := orb_lt l HT.out
      by_cases hr : orb l = 32767
      · have HR : Hid (rt l = true) := Lib.hid (rt_yes ((orb_all l HN.out).1 hr))
        have hq : ((orb l : Int) == 32767) = true := by rw [hr]; rfl
        clear hr
        go_wp2_with fail
        refine (HC.out _).mono ?_
        rintro e w' ⟨rfl, rfl⟩
        go_wp2
        go_ret
        exact ⟨by rw [HR.out]; rfl, rfl⟩
      · have HR : Hid (rt l = false) := Lib.hid (rt_no (fun h => hr ((orb_all l HN.out).2 h)))
        have hq : ((orb l : Int) == 32767) = false := by simp; omega
        clear hr
        go_wp2
        go_ret
        exact ⟨by rw [HR.out]; rfl, rfl⟩
end Go.Proofs.Ytffeegpjnibdnaa
