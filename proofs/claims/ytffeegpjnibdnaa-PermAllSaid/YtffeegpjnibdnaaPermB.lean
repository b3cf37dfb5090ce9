/- What Insert and Remove undo; 'once'; the walk of the law PermBack. -/
import Derived.Test.YtffeegpjnibdnaaPermK
import Derived.OpenShut
set_option linter.unusedVariables false
set_option linter.unusedSimpArgs false
namespace Go.Proofs.Ytffeegpjnibdnaa
open Go.RowKit
set_option linter.unusedVariables false

theorem nib_getD (p i : Nat) (h : i < 15) : nib p i = (slots p).getD i 0 := by
  rw [List.getD_eq_getElem?_getD, slots_get p i h]; rfl
structure InsFacts (p i q : Nat) : Prop where
  lt : q < 18446744073709551616
  len : q % 16 = p % 16 + 1
  sl : slots q = mv (slots p) (p % 16) i
  rt : Rt (slots q)
  at_ : nib q i = nib p (p % 16)
  back : remW q i = p
theorem ins_facts {p i : Nat} (hp : p < 18446744073709551616) (hr : Rt (slots p)) (hn : p % 16 < 15) (hi : i ≤ p % 16) : InsFacts p i (insW p i) := by
  have hl := slots_length p
  have h1 : p % 16 < (slots p).length := by omega
  have h2 : i < (slots p).length := by omega
  have hm := mv_length h1 h2
  have hb := mv_below (b := i) h1 (slots_lt p)
  have hs : slots (insW p i) = mv (slots p) (p % 16) i := slots_wd (by omega) (by omega) hb
  have hc : insW p i % 16 = p % 16 + 1 := wd_mod _ (by omega)
  refine ⟨wd_lt (by omega) (by omega) hb, hc, hs, by rw [hs]; exact mv_Rt h1 hr, ?_, ?_⟩
  · rw [nib_getD _ _ (by omega), hs, mv_get h1 h2, nib_getD _ _ hn]
  · unfold remW
    rw [hc, hs, Nat.add_sub_cancel, mv_back h1 h2, wd_slots p hp]
structure RemFacts (p i q : Nat) : Prop where
  lt : q < 18446744073709551616
  len : q % 16 + 1 = p % 16
  sl : slots q = mv (slots p) i (p % 16 - 1)
  rt : Rt (slots q)
  at_ : nib q (q % 16) = nib p i
  back : insW q i = p
theorem rem_facts {p i : Nat} (hp : p < 18446744073709551616) (hr : Rt (slots p)) (hi : i < p % 16) : RemFacts p i (remW p i) := by
  have hl := slots_length p
  have h1 : p % 16 - 1 < (slots p).length := by omega
  have h2 : i < (slots p).length := by omega
  have hm := mv_length h2 h1
  have hb := mv_below (b := p % 16 - 1) h2 (slots_lt p)
  have hs : slots (remW p i) = mv (slots p) i (p % 16 - 1) := slots_wd (by omega) (by omega) hb
  have hc : remW p i % 16 = p % 16 - 1 := wd_mod _ (by omega)
  refine ⟨wd_lt (by omega) (by omega) hb, by omega, hs, by rw [hs]; exact mv_Rt h2 hr, ?_, ?_⟩
  · rw [hc, nib_getD _ _ (by omega), hs, mv_get h2 h1, nib_getD _ _ (by omega)]
  · unfold insW
    rw [hc, hs, mv_back h2 h1, show p % 16 - 1 + 1 = p % 16 by omega, wd_slots p hp]

def InsYes (p i q s : Nat) : Prop := ∀ w, Calls Try.prog 8 #[.int .u64 p, .int .i64 i] w fun e w' => e = .returned (.tuple #[.int .u64 q, .int .i64 s, .bool true]) ∧ Below w.heap.size w w'
def InsNo (p : Nat) (i : Int) : Prop := ∀ w, Calls Try.prog 8 #[.int .u64 p, .int .i64 i] w fun e w' => e = .returned (.tuple #[.int .u64 p, .int .i64 (-1), .bool false]) ∧ w = w'
def RemYes (p i q s : Nat) : Prop := ∀ w, Calls Try.prog 10 #[.int .u64 p, .int .i64 i] w fun e w' => e = .returned (.tuple #[.int .u64 q, .int .i64 s, .bool true]) ∧ Below w.heap.size w w'
def RemNo (p : Nat) (i : Int) : Prop := ∀ w, Calls Try.prog 10 #[.int .u64 p, .int .i64 i] w fun e w' => e = .returned (.tuple #[.int .u64 p, .int .i64 (-1), .bool false]) ∧ w = w'
def AtIs (p i s : Nat) : Prop := ∀ w, Calls Try.prog 13 #[.int .u64 p, .int .i64 i] w fun e w' => e = .returned (.int .i64 s) ∧ w = w'
def LenIs (p : Nat) (n : Int) : Prop := ∀ w, Calls Try.prog 15 #[.int .u64 p] w fun e w' => e = .returned (.int .i64 n) ∧ w = w'
def RightIs (p : Nat) (b : Bool) : Prop := ∀ w, Calls Try.prog 12 #[.int .u64 p] w fun e w' => e = .returned (.bool b) ∧ w = w'
def OnceIs (p : Nat) : Prop := ∀ w, Calls Try.prog 16 #[.int .u64 p] w fun e w' => e = .returned (.bool true) ∧ Below w.heap.size w w'
theorem right_is (p : Nat) (hp : p < 18446744073709551616) (hr : Rt (slots p)) : RightIs p true := fun w => by have := right_any p w hp; rwa [rt_yes hr] at this
theorem right_not (p : Nat) (hp : p < 18446744073709551616) (hr : ¬ Rt (slots p)) : RightIs p false := fun w => by have := right_any p w hp; rwa [rt_no hr] at this

/-- Which numbers have been seen. -/
def bRow (l : List Nat) : Array Value := ((List.range 15).map fun j => Value.bool (l.contains j)).toArray
theorem bRow_get (l : List Nat) (j : Nat) (h : j < 15) : (bRow l)[j]? = some (.bool (l.contains j)) := by simp [bRow, h]
theorem bRow_zero : bRow [] = #[.bool false, .bool false, .bool false, .bool false, .bool false, .bool false, .bool false, .bool false, .bool false, .bool false, .bool false, .bool false, .bool false, .bool false, .bool false] := by rfl
theorem bRow_set (l : List Nat) (s : Nat) (h : s < 15) : (bRow l).setIfInBounds s (.bool true) = bRow (l ++ [s]) := by
  apply Array.ext_getElem?
  intro i
  have hz : ∀ l, (bRow l).size = 15 := fun l => by simp [bRow]
  rw [Array.getElem?_setIfInBounds, hz]
  by_cases hi : i < 15
  · rw [bRow_get _ _ hi, bRow_get _ _ hi]
    by_cases e : s = i
    · subst e; simp [h]
    · rw [if_neg e]
      have : (l ++ [s]).contains i = l.contains i := by
        rw [Bool.eq_iff_iff]
        simp
        exact fun e' => absurd e'.symm e
      rw [this]
  · have h1 : ∀ l, (bRow l)[i]? = none := fun l => by rw [Array.getElem?_eq_none]; rw [hz]; omega
    rw [h1, h1]
    rw [if_neg (by omega)]

set_option maxHeartbeats 1000000 in
theorem once_any (p : Nat) (w : World) (hp : p < 18446744073709551616) (hr : Rt (slots p)) :
    Calls Try.prog 16 #[.int .u64 p] w fun e w' => e = .returned (.bool true) ∧ Below w.heap.size w w' := by
  obtain ⟨l, hl⟩ : ∃ l, l = slots p := ⟨_, rfl⟩
  have hlen : l.length = 15 := by rw [hl, slots_length]
  have hnd := rt_nodup 15 l hlen (by rw [hl]; exact hr)
  have hat : ∀ k, k < 15 → l[k]? = some (nib p k) := fun k hk => by rw [hl, slots_get p k hk]
  have HR := Lib.hid (right_is p hp hr)
  have HA := Lib.hid hat
  have HN := Lib.hid hlen
  have HD := Lib.hid hnd
  have HO1 := Lib.hid (fun w => at_out p 15 w (.inr (by omega)))
  have HO2 := Lib.hid (fun w => at_out p (-1) w (.inl (by omega)))
  have H0 := Lib.hid bRow_zero
  clear hl hlen hnd hat hr
  go_enter Try.func16, Try.ntmps16
  go_wp2
  go_loopw [4, 5] (fun i _ wr => ∃ k : Nat, k ≤ 15 ∧ i = .int .i64 k ∧ wr = w.alloc (.cells (bRow (l.take k)) 47)) (fun i _ _ => 15 - (intOf i).toNat)
  case atStart => exact ⟨0, by omega, rfl, by rw [List.take_zero, H0.out]⟩
  case round =>
    obtain ⟨k, hk, rfl, rfl⟩ := hrel
    by_cases hlt : k < 15
    · obtain ⟨x, hx⟩ : ∃ x, x = nib p k := ⟨_, rfl⟩
      have Hat : Hid (AtIs p k x) := Lib.hid fun w => by rw [hx]; exact at_in p k w hp hlt
      have hxl : l[k]? = some x := by rw [hx]; exact HA.out k hlt
      have hx15 : x < 15 := HD.out.2 x (List.mem_of_getElem? hxl)
      have hnot : (l.take k).contains x = false := by
        have h1 : l.take (k + 1) = l.take k ++ [x] := by rw [List.take_add_one, hxl]; rfl
        have h2 : (l.take (k + 1)).Nodup := HD.out.1.sublist (List.take_sublist _ _)
        rw [h1, List.nodup_append] at h2
        cases hc : (l.take k).contains x
        · rfl
        · exact absurd rfl (h2.2.2 x (by simpa using hc) x (by simp))
      have hv : (w.alloc (.cells (bRow (l.take k)) 47)).cell? ⟨w.heap.size, x, none⟩ = some (.bool false) := by
        rw [World.cell?_alloc_at _ _ _ _ rfl, bRow_get _ _ hx15, hnot]
      have HS : Hid ((bRow (l.take k)).setIfInBounds x (.bool true) = bRow (l.take (k + 1))) := by
        refine Lib.hid ?_
        rw [bRow_set _ _ hx15, List.take_add_one, hxl]; rfl
      clear hx hxl hnot
      go_wp2_with fail
      refine (Hat.out _).mono ?_
      rintro e w' ⟨rfl, rfl⟩
      go_wp2
      go_roundw
      case rel => exact ⟨k + 1, by omega, by go_num, by rw [HS.out]⟩
      case measure => simp [intOf]; omega
    · obtain rfl : k = 15 := by omega
      go_wp2_with fail
      refine (HR.out _).mono ?_
      rintro e w' ⟨rfl, rfl⟩
      go_wp2_with fail
      refine (HO1.out _).mono ?_
      rintro e w' ⟨rfl, rfl⟩
      go_wp2_with fail
      refine (HO2.out _).mono ?_
      rintro e w' ⟨rfl, rfl⟩
      go_wp2
      go_ret
      exact ⟨rfl, (Below.refl _ _).alloc (Nat.le_refl _) _⟩

set_option maxRecDepth 100000 in
set_option maxHeartbeats 1000000 in
theorem back_wrong (p : Nat) (i : Int) (HR : Hid (RightIs p false)) (HI : Hid (InsNo p i)) (HX : Hid (RemNo p i)) (w : World) :
    Calls Try.prog 5 #[.int .u64 p, .int .i64 i] w fun e w' => e = .returned (.bool true) ∧ Below w.heap.size w w' := by
  go_enter Try.func5, Try.ntmps5
  go_wp2_with fail
  refine (awake_any _).mono ?_
  rintro e v1 ⟨rfl, hb1⟩
  have B1 := hb1
  go_wp2_with fail
  refine (HR.out _).mono ?_
  rintro e w' ⟨rfl, rfl⟩
  go_wp2_with fail
  refine (HI.out _).mono ?_
  rintro e w' ⟨rfl, rfl⟩
  go_wp2_with fail
  refine (HX.out _).mono ?_
  rintro e w' ⟨rfl, rfl⟩
  go_wp2
  go_ret
  exact ⟨rfl, B1⟩

set_option maxRecDepth 100000 in
set_option maxHeartbeats 1000000 in
theorem back_both (p i n q s r t : Nat) (hn : n < 15) (hi : i < n) (HR : Hid (RightIs p true)) (HL : Hid (LenIs p (n : Int))) (HI : Hid (InsYes p i q s)) (HB : Hid (RemYes q i p s)) (HQi : Hid (AtIs q i s)) (HPn : Hid (AtIs p n s)) (HLq : Hid (LenIs q ((n : Int) + 1))) (HOq : Hid (OnceIs q)) (HX : Hid (RemYes p i r t)) (HY : Hid (InsYes r i p t)) (HPi : Hid (AtIs p i t)) (HLr : Hid (LenIs r ((n : Int) - 1))) (HOr : Hid (OnceIs r)) (w : World) :
    Calls Try.prog 5 #[.int .u64 p, .int .i64 i] w fun e w' => e = .returned (.bool true) ∧ Below w.heap.size w w' := by
  have d0 : decide ((n : Int) < 15) = true := by simp <;> omega
  have d1 : decide (0 ≤ (i : Int)) = true := by simp <;> omega
  have d2 : decide (i ≤ n) = true := by simp <;> omega
  have d3 : decide (i < n) = true := by simp <;> omega
  go_enter Try.func5, Try.ntmps5
  go_wp2_with fail
  refine (awake_any _).mono ?_
  rintro e v1 ⟨rfl, hb1⟩
  have B1 := hb1
  go_wp2_with fail
  refine (HR.out _).mono ?_
  rintro e w' ⟨rfl, rfl⟩
  go_wp2_with fail
  refine (HL.out _).mono ?_
  rintro e w' ⟨rfl, rfl⟩
  go_wp2_with fail
  refine (HI.out _).mono ?_
  rintro e v2 ⟨rfl, hb2⟩
  have B2 := B1.trans (hb2.mono B1.size)
  clear hb2
  go_wp2_with fail
  refine (HB.out _).mono ?_
  rintro e v3 ⟨rfl, hb3⟩
  have B3 := B2.trans (hb3.mono B2.size)
  clear hb3
  go_wp2_with fail
  refine (HQi.out _).mono ?_
  rintro e w' ⟨rfl, rfl⟩
  go_wp2_with fail
  refine (HPn.out _).mono ?_
  rintro e w' ⟨rfl, rfl⟩
  go_wp2_with fail
  refine (HLq.out _).mono ?_
  rintro e w' ⟨rfl, rfl⟩
  go_wp2_with fail
  refine (HOq.out _).mono ?_
  rintro e v4 ⟨rfl, hb4⟩
  have B4 := B3.trans (hb4.mono B3.size)
  clear hb4
  go_wp2_with fail
  refine (HX.out _).mono ?_
  rintro e v5 ⟨rfl, hb5⟩
  have B5 := B4.trans (hb5.mono B4.size)
  clear hb5
  go_wp2_with fail
  refine (HY.out _).mono ?_
  rintro e v6 ⟨rfl, hb6⟩
  have B6 := B5.trans (hb6.mono B5.size)
  clear hb6
  go_wp2_with fail
  refine (HPi.out _).mono ?_
  rintro e w' ⟨rfl, rfl⟩
  go_wp2_with fail
  refine (HLr.out _).mono ?_
  rintro e w' ⟨rfl, rfl⟩
  go_wp2_with fail
  refine (HOr.out _).mono ?_
  rintro e v7 ⟨rfl, hb7⟩
  have B7 := B6.trans (hb7.mono B6.size)
  clear hb7
  go_wp2
  go_ret
  exact ⟨rfl, B7⟩

set_option maxRecDepth 100000 in
set_option maxHeartbeats 1000000 in
theorem back_ins (p i n q s : Nat) (hn : n < 15) (hi : i ≤ n) (hi2 : n ≤ i) (HR : Hid (RightIs p true)) (HL : Hid (LenIs p (n : Int))) (HI : Hid (InsYes p i q s)) (HB : Hid (RemYes q i p s)) (HQi : Hid (AtIs q i s)) (HPn : Hid (AtIs p n s)) (HLq : Hid (LenIs q ((n : Int) + 1))) (HOq : Hid (OnceIs q)) (HX : Hid (RemNo p i)) (HO : Hid (OnceIs p)) (w : World) :
    Calls Try.prog 5 #[.int .u64 p, .int .i64 i] w fun e w' => e = .returned (.bool true) ∧ Below w.heap.size w w' := by
  have d0 : decide ((n : Int) < 15) = true := by simp <;> omega
  have d1 : decide (0 ≤ (i : Int)) = true := by simp <;> omega
  have d2 : decide (i ≤ n) = true := by simp <;> omega
  have d3 : decide (i < n) = false := by simp <;> omega
  go_enter Try.func5, Try.ntmps5
  go_wp2_with fail
  refine (awake_any _).mono ?_
  rintro e v1 ⟨rfl, hb1⟩
  have B1 := hb1
  go_wp2_with fail
  refine (HR.out _).mono ?_
  rintro e w' ⟨rfl, rfl⟩
  go_wp2_with fail
  refine (HL.out _).mono ?_
  rintro e w' ⟨rfl, rfl⟩
  go_wp2_with fail
  refine (HI.out _).mono ?_
  rintro e v2 ⟨rfl, hb2⟩
  have B2 := B1.trans (hb2.mono B1.size)
  clear hb2
  go_wp2_with fail
  refine (HB.out _).mono ?_
  rintro e v3 ⟨rfl, hb3⟩
  have B3 := B2.trans (hb3.mono B2.size)
  clear hb3
  go_wp2_with fail
  refine (HQi.out _).mono ?_
  rintro e w' ⟨rfl, rfl⟩
  go_wp2_with fail
  refine (HPn.out _).mono ?_
  rintro e w' ⟨rfl, rfl⟩
  go_wp2_with fail
  refine (HLq.out _).mono ?_
  rintro e w' ⟨rfl, rfl⟩
  go_wp2_with fail
  refine (HOq.out _).mono ?_
  rintro e v4 ⟨rfl, hb4⟩
  have B4 := B3.trans (hb4.mono B3.size)
  clear hb4
  go_wp2_with fail
  refine (HX.out _).mono ?_
  rintro e w' ⟨rfl, rfl⟩
  go_wp2_with fail
  refine (HO.out _).mono ?_
  rintro e v5 ⟨rfl, hb5⟩
  have B5 := B4.trans (hb5.mono B4.size)
  clear hb5
  go_wp2
  go_ret
  exact ⟨rfl, B5⟩

set_option maxRecDepth 100000 in
set_option maxHeartbeats 1000000 in
theorem back_rem (p i n r t : Nat) (hn : 15 ≤ n) (hi : i < n) (hn2 : n ≤ 15) (HR : Hid (RightIs p true)) (HL : Hid (LenIs p (n : Int))) (HI : Hid (InsNo p i)) (HX : Hid (RemYes p i r t)) (HY : Hid (InsYes r i p t)) (HPi : Hid (AtIs p i t)) (HLr : Hid (LenIs r ((n : Int) - 1))) (HOr : Hid (OnceIs r)) (w : World) :
    Calls Try.prog 5 #[.int .u64 p, .int .i64 i] w fun e w' => e = .returned (.bool true) ∧ Below w.heap.size w w' := by
  have d0 : decide ((n : Int) < 15) = false := by simp <;> omega
  have d1 : decide (0 ≤ (i : Int)) = true := by simp <;> omega
  have d2 : decide (i < n) = true := by simp <;> omega
  go_enter Try.func5, Try.ntmps5
  go_wp2_with fail
  refine (awake_any _).mono ?_
  rintro e v1 ⟨rfl, hb1⟩
  have B1 := hb1
  go_wp2_with fail
  refine (HR.out _).mono ?_
  rintro e w' ⟨rfl, rfl⟩
  go_wp2_with fail
  refine (HL.out _).mono ?_
  rintro e w' ⟨rfl, rfl⟩
  go_wp2_with fail
  refine (HI.out _).mono ?_
  rintro e w' ⟨rfl, rfl⟩
  go_wp2_with fail
  refine (HX.out _).mono ?_
  rintro e v2 ⟨rfl, hb2⟩
  have B2 := B1.trans (hb2.mono B1.size)
  clear hb2
  go_wp2_with fail
  refine (HY.out _).mono ?_
  rintro e v3 ⟨rfl, hb3⟩
  have B3 := B2.trans (hb3.mono B2.size)
  clear hb3
  go_wp2_with fail
  refine (HPi.out _).mono ?_
  rintro e w' ⟨rfl, rfl⟩
  go_wp2_with fail
  refine (HLr.out _).mono ?_
  rintro e w' ⟨rfl, rfl⟩
  go_wp2_with fail
  refine (HOr.out _).mono ?_
  rintro e v4 ⟨rfl, hb4⟩
  have B4 := B3.trans (hb4.mono B3.size)
  clear hb4
  go_wp2
  go_ret
  exact ⟨rfl, B4⟩

set_option maxRecDepth 100000 in
set_option maxHeartbeats 1000000 in
theorem back_none (p n : Nat) (i : Int) (h : (i < 0 ∧ n < 15) ∨ (i < 0 ∧ 15 ≤ n) ∨ (15 ≤ n ∧ 0 ≤ i ∧ (n : Int) ≤ i) ∨ (n < 15 ∧ 0 ≤ i ∧ (n : Int) < i)) (HR : Hid (RightIs p true)) (HL : Hid (LenIs p (n : Int))) (HI : Hid (InsNo p i)) (HX : Hid (RemNo p i)) (HO : Hid (OnceIs p)) (w : World) :
    Calls Try.prog 5 #[.int .u64 p, .int .i64 i] w fun e w' => e = .returned (.bool true) ∧ Below w.heap.size w w' := by
  rcases h with ⟨h, h2⟩ | ⟨h, h2⟩ | ⟨h, h2, h3⟩ | ⟨h, h2, h3⟩
  all_goals
    go_enter Try.func5, Try.ntmps5
    go_wp2_with fail
    refine (awake_any _).mono ?_
    rintro e v1 ⟨rfl, hb1⟩
    have B1 := hb1
    go_wp2_with fail
    refine (HR.out _).mono ?_
    rintro e w' ⟨rfl, rfl⟩
    go_wp2_with fail
    refine (HL.out _).mono ?_
    rintro e w' ⟨rfl, rfl⟩
    go_wp2_with fail
    refine (HI.out _).mono ?_
    rintro e w' ⟨rfl, rfl⟩
    go_wp2_with fail
    refine (HX.out _).mono ?_
    rintro e w' ⟨rfl, rfl⟩
    go_wp2_with fail
    refine (HO.out _).mono ?_
    rintro e v2 ⟨rfl, hb2⟩
    have B2 := B1.trans (hb2.mono B1.size)
    clear hb2
    go_wp2
    go_ret
    exact ⟨rfl, B2⟩

theorem permBack_walk (P i : Int) (wP : (Lit.int .u64 P).wf = true) (wi : (Lit.int .i64 i).wf = true) (w : World) :
    Calls Try.prog 5 #[.int .u64 P, .int .i64 i] w fun e w' => e = .returned (.bool true) ∧ Below w.heap.size w w' := by
  have hP := bounds_u64 wP
  obtain ⟨p, rfl⟩ : ∃ p : Nat, P = p := ⟨P.toNat, by omega⟩
  have hp : p < 18446744073709551616 := by omega
  clear wP wi hP
  by_cases hr : Rt (slots p)
  · have HR := Lib.hid (right_is p hp hr)
    obtain ⟨n, hn⟩ : ∃ n, n = p % 16 := ⟨_, rfl⟩
    have HL : Hid (LenIs p (n : Int)) := Lib.hid fun w => by rw [hn]; exact len_any p w hp
    have HO : Hid (OnceIs p) := Lib.hid fun w => once_any p w hp hr
    have hremno : i < 0 ∨ (n : Int) ≤ i → Hid (RemNo p i) := fun h => Lib.hid fun w => remove_no p i w hp (.inr (by omega))
    have hinsno : 15 ≤ n ∨ i < 0 ∨ (n : Int) < i → Hid (InsNo p i) := fun h => Lib.hid fun w => insert_no p i w hp (.inr (by omega))
    by_cases hi : (i < 0 ∧ n < 15) ∨ (i < 0 ∧ 15 ≤ n) ∨ (15 ≤ n ∧ 0 ≤ i ∧ (n : Int) ≤ i) ∨ (n < 15 ∧ 0 ≤ i ∧ (n : Int) < i)
    · exact back_none p n i hi HR HL (hinsno (by omega)) (hremno (by omega)) HO w
    · obtain ⟨j, rfl⟩ : ∃ j : Nat, i = j := ⟨i.toNat, by omega⟩
      have hI : ∀ _ : n < 15, j ≤ n → ∃ q s, Hid (InsYes p j q s) ∧ Hid (RemYes q j p s) ∧ Hid (AtIs q j s) ∧ Hid (AtIs p n s) ∧ Hid (LenIs q ((n : Int) + 1)) ∧ Hid (OnceIs q) := fun h15 hj => by
        have f := ins_facts hp hr (by omega : p % 16 < 15) (by omega : j ≤ p % 16)
        refine ⟨insW p j, nib p (p % 16), Lib.hid fun w => insert_yes p j w hp hr (by omega) (by omega), Lib.hid fun w => ?_, Lib.hid fun w => ?_, Lib.hid fun w => ?_, Lib.hid fun w => ?_, Lib.hid fun w => once_any _ w f.lt f.rt⟩
        · have := remove_yes (insW p j) j w f.lt f.rt (by rw [f.len]; omega)
          rwa [f.back, f.at_] at this
        · have := at_in (insW p j) j w f.lt (by omega)
          rwa [f.at_] at this
        · rw [hn]; exact at_in p (p % 16) w hp (by omega)
        · have := len_any (insW p j) w f.lt
          rw [f.len, ← hn] at this
          simpa using this
      have hX : j < n → ∃ r t, Hid (RemYes p j r t) ∧ Hid (InsYes r j p t) ∧ Hid (AtIs p j t) ∧ Hid (LenIs r ((n : Int) - 1)) ∧ Hid (OnceIs r) := fun hj => by
        have f := rem_facts hp hr (by omega : j < p % 16)
        have hlen := f.len
        refine ⟨remW p j, nib p j, Lib.hid fun w => remove_yes p j w hp hr (by omega), Lib.hid fun w => ?_, Lib.hid fun w => at_in p j w hp (by omega), Lib.hid fun w => ?_, Lib.hid fun w => once_any _ w f.lt f.rt⟩
        · have := insert_yes (remW p j) j w f.lt f.rt (by omega) (by omega)
          rwa [f.back, f.at_] at this
        · have := len_any (remW p j) w f.lt
          rwa [show ((remW p j % 16 : Nat) : Int) = (n : Int) - 1 by omega] at this
      have hn16 : n ≤ 15 := by omega
      by_cases h15 : n < 15
      · obtain ⟨q, s, a1, a2, a3, a4, a5, a6⟩ := hI h15 (by omega)
        by_cases hj : j < n
        · obtain ⟨r, t, b1, b2, b3, b4, b5⟩ := hX hj
          exact back_both p j n q s r t h15 hj HR HL a1 a2 a3 a4 a5 a6 b1 b2 b3 b4 b5 w
        · exact back_ins p j n q s h15 (by omega) (by omega) HR HL a1 a2 a3 a4 a5 a6 (hremno (by omega)) HO w
      · obtain ⟨r, t, b1, b2, b3, b4, b5⟩ := hX (by omega)
        exact back_rem p j n r t (by omega) (by omega) hn16 HR HL (hinsno (by omega)) b1 b2 b3 b4 b5 w
  · exact back_wrong p i (Lib.hid (right_not p hp hr)) (Lib.hid fun w => insert_no p i w hp (.inl hr)) (Lib.hid fun w => remove_no p i w hp (.inl hr)) w
end Go.Proofs.Ytffeegpjnibdnaa
