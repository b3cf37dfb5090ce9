/- The walk of the law PermKnown; 'awake'. -/
import Derived.Test.YtffeegpjnibdnaaPermI
set_option linter.unusedVariables false
set_option linter.unusedSimpArgs false
namespace Go.Proofs.Ytffeegpjnibdnaa
open Go.RowKit
set_option linter.unusedVariables false

theorem insert_lit (P I W S : Int) (p i : Nat) (hP : P = p) (hI : I = i) (h : p < 18446744073709551616 ∧ rt (slots p) = true ∧ p % 16 < 15 ∧ i ≤ p % 16) (hW : W = insW p i) (hS : S = nib p (p % 16)) (w : World) :
    Calls Try.prog 8 #[.int .u64 P, .int .i64 I] w fun e w' => e = .returned (.tuple #[.int .u64 W, .int .i64 S, .bool true]) ∧ Below w.heap.size w w' := by
  subst hP hI hW hS
  exact insert_yes p i w h.1 ((rt_iff _).1 h.2.1) h.2.2.1 h.2.2.2
theorem remove_lit (P I W S : Int) (p i : Nat) (hP : P = p) (hI : I = i) (h : p < 18446744073709551616 ∧ rt (slots p) = true ∧ i < p % 16) (hW : W = remW p i) (hS : S = nib p i) (w : World) :
    Calls Try.prog 10 #[.int .u64 P, .int .i64 I] w fun e w' => e = .returned (.tuple #[.int .u64 W, .int .i64 S, .bool true]) ∧ Below w.heap.size w w' := by
  subst hP hI hW hS
  exact remove_yes p i w h.1 ((rt_iff _).1 h.2.1) h.2.2
theorem insert_no_lit (P I : Int) (p : Nat) (hP : P = p) (hp : p < 18446744073709551616) (h : (p % 16 : Nat) < I) (w : World) :
    Calls Try.prog 8 #[.int .u64 P, .int .i64 I] w fun e w' => e = .returned (.tuple #[.int .u64 P, .int .i64 (-1), .bool false]) ∧ w = w' := by
  subst hP
  exact insert_no p I w hp (.inr (.inr (.inr h)))
theorem remove_no_lit (P I : Int) (p : Nat) (hP : P = p) (hp : p < 18446744073709551616) (h : (p % 16 : Nat) ≤ I) (w : World) :
    Calls Try.prog 10 #[.int .u64 P, .int .i64 I] w fun e w' => e = .returned (.tuple #[.int .u64 P, .int .i64 (-1), .bool false]) ∧ w = w' := by
  subst hP
  exact remove_no p I w hp (.inr (.inr h))
theorem at_lit (P I S : Int) (p i : Nat) (hP : P = p) (hI : I = i) (hp : p < 18446744073709551616) (hi : i < 15) (hS : S = nib p i) (w : World) :
    Calls Try.prog 13 #[.int .u64 P, .int .i64 I] w fun e w' => e = .returned (.int .i64 S) ∧ w = w' := by
  subst hP hI hS
  exact at_in p i w hp hi
theorem right_lit (P : Int) (b : Bool) (p : Nat) (hP : P = p) (hp : p < 18446744073709551616) (hb : b = rt (slots p)) (w : World) :
    Calls Try.prog 12 #[.int .u64 P] w fun e w' => e = .returned (.bool b) ∧ w = w' := by
  subst hP hb
  exact right_any p w hp

theorem awake_any (w : World) : Calls Try.prog 11 #[] w fun e w' => e = .returned (.bool true) ∧ Below w.heap.size w w' := by
  go_enter Try.func11, Try.ntmps11
  go_wp2_with fail
  refine (empty_any _).mono ?_
  rintro e w' ⟨rfl, rfl⟩
  go_wp2_with fail
  refine (insert_lit 17134975606245761280 0 17134975606245761281 0 17134975606245761280 0 rfl rfl (by decide) (by decide) (by decide) _).mono ?_
  rintro e v1 ⟨rfl, hb1⟩
  have B1 := hb1
  go_wp2_with fail
  refine (insert_lit 17134975606245761281 0 17134975606245761042 1 17134975606245761281 0 rfl rfl (by decide) (by decide) (by decide) _).mono ?_
  rintro e v2 ⟨rfl, hb2⟩
  have B2 := B1.trans (hb2.mono B1.size)
  clear hb2
  go_wp2_with fail
  refine (empty_any _).mono ?_
  rintro e w' ⟨rfl, rfl⟩
  go_wp2
  go_ret
  exact ⟨rfl, B2⟩

set_option maxRecDepth 100000 in
set_option maxHeartbeats 1000000 in
theorem permKnown_walk (w : World) : Calls Try.prog 3 #[] w fun e w' => e = .returned (.bool true) ∧ Below w.heap.size w w' := by
  go_enter Try.func3, Try.ntmps3
  go_wp2_with fail
  refine (empty_any _).mono ?_
  rintro e w' ⟨rfl, rfl⟩
  go_wp2_with fail
  refine (insert_lit 17134975606245761280 0 17134975606245761281 0 17134975606245761280 0 rfl rfl (by decide) (by decide) (by decide) _).mono ?_
  rintro e v1 ⟨rfl, hb1⟩
  have B1 := hb1
  go_wp2_with fail
  refine (insert_lit 17134975606245761281 0 17134975606245761042 1 17134975606245761281 0 rfl rfl (by decide) (by decide) (by decide) _).mono ?_
  rintro e v2 ⟨rfl, hb2⟩
  have B2 := B1.trans (hb2.mono B1.size)
  clear hb2
  go_wp2_with fail
  refine (insert_lit 17134975606245761042 1 17134975606245753363 2 17134975606245761042 1 rfl rfl (by decide) (by decide) (by decide) _).mono ?_
  rintro e v3 ⟨rfl, hb3⟩
  have B3 := B2.trans (hb3.mono B2.size)
  clear hb3
  go_wp2_with fail
  refine (remove_lit 17134975606245753363 0 17134975606245756962 1 17134975606245753363 0 rfl rfl (by decide) (by decide) (by decide) _).mono ?_
  rintro e v4 ⟨rfl, hb4⟩
  have B4 := B3.trans (hb4.mono B3.size)
  clear hb4
  go_wp2_with fail
  refine (empty_any _).mono ?_
  rintro e w' ⟨rfl, rfl⟩
  go_wp2_with fail
  refine (insert_no_lit 17134975606245761280 1 17134975606245761280 rfl (by decide) (by decide) _).mono ?_
  rintro e w' ⟨rfl, rfl⟩
  go_wp2_with fail
  refine (empty_any _).mono ?_
  rintro e w' ⟨rfl, rfl⟩
  go_wp2_with fail
  refine (remove_no_lit 17134975606245761280 0 17134975606245761280 rfl (by decide) (by decide) _).mono ?_
  rintro e w' ⟨rfl, rfl⟩
  go_wp2_with fail
  refine (awake_any _).mono ?_
  rintro e v5 ⟨rfl, hb5⟩
  have B5 := B4.trans (hb5.mono B4.size)
  clear hb5
  go_wp2_with fail
  refine (right_lit 0 false 0 rfl (by decide) (by decide) _).mono ?_
  rintro e w' ⟨rfl, rfl⟩
  go_wp2_with fail
  refine (at_lit 17134975606245756962 0 2 17134975606245756962 0 rfl rfl (by decide) (by decide) (by decide) _).mono ?_
  rintro e w' ⟨rfl, rfl⟩
  go_wp2_with fail
  refine (at_lit 17134975606245756962 2 1 17134975606245756962 2 rfl rfl (by decide) (by decide) (by decide) _).mono ?_
  rintro e w' ⟨rfl, rfl⟩
  go_wp2_with fail
  refine (right_lit 17134975606245756962 true 17134975606245756962 rfl (by decide) (by decide) _).mono ?_
  rintro e w' ⟨rfl, rfl⟩
  go_wp2
  go_ret
  exact ⟨rfl, B5⟩
end Go.Proofs.Ytffeegpjnibdnaa
