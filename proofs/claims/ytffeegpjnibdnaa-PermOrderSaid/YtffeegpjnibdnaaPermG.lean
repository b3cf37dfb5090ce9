/- The walk of the law PermOrder. -/
import Derived.Test.YtffeegpjnibdnaaPermO
namespace Go.Proofs.Ytffeegpjnibdnaa
open Go.RowKit
set_option linter.unusedVariables false

theorem ins_get_lt {e : List Nat} {b x k : Nat} (h : k < b) (hb : b ≤ e.length) : (ins e b x).getD k 0 = e.getD k 0 := by
  unfold ins
  rw [List.getD_eq_getElem?_getD, List.getD_eq_getElem?_getD, List.getElem?_append_left (by simp; omega), List.getElem?_take, if_pos h]
theorem ins_get_gt {e : List Nat} {b x k : Nat} (h : b ≤ k) (hb : b ≤ e.length) : (ins e b x).getD (k + 1) 0 = e.getD k 0 := by
  unfold ins
  rw [List.getD_eq_getElem?_getD, List.getD_eq_getElem?_getD, List.getElem?_append_right (by simp; omega)]
  rw [show k + 1 - (e.take b).length = (k - b) + 1 by simp; omega, List.getElem?_cons_succ, List.getElem?_drop, show b + (k - b) = k by omega]
theorem ers_get_lt {l : List Nat} {a k : Nat} (h : k < a) (ha : a < l.length) : (ers l a).getD k 0 = l.getD k 0 := by
  unfold ers
  rw [List.getD_eq_getElem?_getD, List.getD_eq_getElem?_getD, List.getElem?_append_left (by simp; omega), List.getElem?_take, if_pos h]
theorem ers_get_ge {l : List Nat} {a k : Nat} (h : a ≤ k) (ha : a < l.length) : (ers l a).getD k 0 = l.getD (k + 1) 0 := by
  unfold ers
  rw [List.getD_eq_getElem?_getD, List.getD_eq_getElem?_getD, List.getElem?_append_right (by simp; omega), List.getElem?_drop]
  rw [show a + 1 + (k - (l.take a).length) = k + 1 by simp; omega]

structure InsPack (p j n q s : Nat) : Prop where
  HI : Hid (InsYes p j q s)
  HB : Hid (RemYes q j p s)
  HQi : Hid (AtIs q j s)
  HLq : Hid (LenIs q ((n : Int) + 1))
  HRq : Hid (RightIs q true)
  each : Hid (∀ k, k < n → ∃ x, ¬ x = s ∧ AtIs p k x ∧ AtIs q (if k < j then k else k + 1) x)
structure RemPack (p j n r t : Nat) : Prop where
  HX : Hid (RemYes p j r t)
  HY : Hid (InsYes r j p t)
  HRr : Hid (RightIs r true)
  HLr : Hid (LenIs r ((n : Int) - 1))
  HA : Hid (AtIs r (n - 1) t)
  each : Hid (∀ k, k < n - 1 → ∃ x, AtIs r k x ∧ AtIs p (if k < j then k else k + 1) x)
theorem ins_pack {p j n : Nat} (hp : p < 18446744073709551616) (hr : Rt (slots p)) (hn : n = p % 16) (h15 : n < 15) (hj : j ≤ n) : ∃ q s, InsPack p j n q s := by
  have f := ins_facts hp hr (by omega : p % 16 < 15) (by omega : j ≤ p % 16)
  have hl := slots_length p
  have hnd := rt_nodup 15 _ hl hr
  refine ⟨insW p j, nib p (p % 16), Lib.hid fun w => insert_yes p j w hp hr (by omega) (by omega), Lib.hid fun w => ?_, Lib.hid fun w => ?_, Lib.hid fun w => ?_, Lib.hid (right_is _ f.lt f.rt), Lib.hid fun k hk => ?_⟩
  · have := remove_yes (insW p j) j w f.lt f.rt (by rw [f.len]; omega)
    rwa [f.back, f.at_] at this
  · have := at_in (insW p j) j w f.lt (by omega)
    rwa [f.at_] at this
  · have := len_any (insW p j) w f.lt
    rw [f.len, ← hn] at this
    simpa using this
  · refine ⟨nib p k, ?_, fun w => at_in p k w hp (by omega), fun w => ?_⟩
    · rw [nib_getD p k (by omega), nib_getD p _ (by omega), getD_eq (by omega), getD_eq (by omega)]
      exact List.pairwise_iff_getElem.1 hnd.1 k (p % 16) (by omega) (by omega) (by omega)
    · have h1 : (if k < j then k else k + 1) < 15 := by split <;> omega
      have := at_in (insW p j) (if k < j then k else k + 1) w f.lt h1
      rwa [nib_getD _ _ h1, f.sl, show (mv (slots p) (p % 16) j).getD (if k < j then k else k + 1) 0 = nib p k from ?_] at this
      rw [nib_getD p k (by omega), ← ers_get_lt (l := slots p) (a := p % 16) (by omega) (by omega)]
      unfold mv
      split
      · rename_i hkj; exact ins_get_lt hkj (by rw [ers_length (by omega)]; omega)
      · rename_i hkj; exact ins_get_gt (by omega) (by rw [ers_length (by omega)]; omega)
theorem rem_pack {p j n : Nat} (hp : p < 18446744073709551616) (hr : Rt (slots p)) (hn : n = p % 16) (hj : j < n) : ∃ r t, RemPack p j n r t := by
  have f := rem_facts hp hr (by omega : j < p % 16)
  have hl := slots_length p
  have hlen := f.len
  refine ⟨remW p j, nib p j, Lib.hid fun w => remove_yes p j w hp hr (by omega), Lib.hid fun w => ?_, Lib.hid (right_is _ f.lt f.rt), Lib.hid fun w => ?_, Lib.hid fun w => ?_, Lib.hid fun k hk => ?_⟩
  · have := insert_yes (remW p j) j w f.lt f.rt (by omega) (by omega)
    rwa [f.back, f.at_] at this
  · have := len_any (remW p j) w f.lt
    rwa [show ((remW p j % 16 : Nat) : Int) = (n : Int) - 1 by omega] at this
  · have := at_in (remW p j) (remW p j % 16) w f.lt (by omega)
    rw [f.at_] at this
    rwa [show n - 1 = remW p j % 16 by omega]
  · have h1 : (if k < j then k else k + 1) < 15 := by split <;> omega
    refine ⟨nib (remW p j) k, fun w => at_in _ k w f.lt (by omega), fun w => ?_⟩
    have := at_in p (if k < j then k else k + 1) w hp h1
    rwa [show nib p (if k < j then k else k + 1) = nib (remW p j) k from ?_] at this
    rw [nib_getD _ _ h1, nib_getD _ k (by omega), f.sl]
    unfold mv
    rw [ins_get_lt (by omega) (by rw [ers_length (by omega)]; omega)]
    split
    · rename_i hkj; rw [ers_get_lt hkj (by omega)]
    · rename_i hkj; rw [ers_get_ge (by omega) (by omega)]

set_option maxRecDepth 100000 in
set_option maxHeartbeats 4000000 in
theorem order_both (a : Option Addr) (len cap p : Nat) (n j q s r t : Nat) (hn : n < 15) (hj : j < n) (I : InsPack p j n q s) (R : RemPack p j n r t) (w : World) (hlen : len ≤ 300) (hn16 : n ≤ 15)
    (HW : Hid (∀ v, Below w.heap.size w v → Calls Try.prog 14 #[.slice a len cap] v fun e w' => e = .returned (.int .u64 p) ∧ Below v.heap.size v w')) (HL : Hid (LenIs p (n : Int))) (HR : Hid (RightIs p true)) :
    Calls Try.prog 4 #[.slice a len cap, .int .i64 j] w fun e w' => e = .returned (.bool true) ∧ Below w.heap.size w w' := by
  have d0 : decide ((n : Int) < 15) = true := by simp <;> omega
  have d1 : decide (0 ≤ (j : Int)) = true := by simp <;> omega
  have d2 : decide (j ≤ n) = true := by simp <;> omega
  have d3 : decide (j < n) = true := by simp <;> omega
  have HA1 : Hid (∀ w, Calls Try.prog 13 #[.int .u64 r, .int .i64 ((n : Int) - 1)] w fun e w' => e = .returned (.int .i64 t) ∧ w = w') := Lib.hid fun w => by have := R.HA.out w; rwa [show ((n - 1 : Nat) : Int) = (n : Int) - 1 by omega] at this
  go_enter Try.func4, Try.ntmps4
  go_wp2_with fail
  refine (awake_any _).mono ?_
  rintro e v1 ⟨rfl, hb1⟩
  have B1 := hb1
  go_wp2_with fail
  refine (HW.out _ B1).mono ?_
  rintro e v2 ⟨rfl, hb2⟩
  have B2 := B1.trans (hb2.mono B1.size)
  clear hb2
  go_wp2_with fail
  refine (HL.out _).mono ?_
  rintro e w' ⟨rfl, rfl⟩
  go_wp2_with fail
  refine (HR.out _).mono ?_
  rintro e w' ⟨rfl, rfl⟩
  go_wp2_with fail
  refine (I.HI.out _).mono ?_
  rintro e v3 ⟨rfl, hb3⟩
  have B3 := B2.trans (hb3.mono B2.size)
  clear hb3
  go_wp2_with fail
  refine (I.HB.out _).mono ?_
  rintro e v4 ⟨rfl, hb4⟩
  have B4 := B3.trans (hb4.mono B3.size)
  clear hb4
  go_wp2_with fail
  refine (I.HRq.out _).mono ?_
  rintro e w' ⟨rfl, rfl⟩
  go_wp2_with fail
  refine (I.HLq.out _).mono ?_
  rintro e w' ⟨rfl, rfl⟩
  go_wp2_with fail
  refine (I.HQi.out _).mono ?_
  rintro e w' ⟨rfl, rfl⟩
  go_wp2_with fail
  go_loopw [13, 14] (fun k _ wr => ∃ m : Nat, m ≤ n ∧ k = .int .i64 m ∧ Below w.heap.size w wr) (fun k _ _ => n - (intOf k).toNat)
  case atStart => exact ⟨0, by omega, rfl, B4⟩
  case round =>
    obtain ⟨m, hm, rfl, hbl⟩ := hrel
    by_cases hmn : m < n
    · obtain ⟨x, hxs, h1, h2⟩ := I.each.out m hmn
      have H1 := Lib.hid h1
      have hne : ((x : Int) == (s : Int)) = false := by simp; omega
      clear h1 hxs
      by_cases hmj : m < j
      · rw [if_pos hmj] at h2
        have H2 := Lib.hid h2
        clear h2
        go_wp2_with fail
        refine (H2.out _).mono ?_
        rintro e w' ⟨rfl, rfl⟩
        go_wp2_with fail
        refine (H1.out _).mono ?_
        rintro e w' ⟨rfl, rfl⟩
        go_wp2_with fail
        refine (H1.out _).mono ?_
        rintro e w' ⟨rfl, rfl⟩
        go_wp2
        go_roundw
        case rel => exact ⟨m + 1, by omega, by go_num, hbl⟩
        case measure => simp [intOf]; omega
      · rw [if_neg hmj] at h2
        have H2 : Hid (∀ w, Calls Try.prog 13 #[.int .u64 q, .int .i64 ((m : Int) + 1)] w fun e w' => e = .returned (.int .i64 x) ∧ w = w') := Lib.hid fun w => by have := h2 w; simpa using this
        clear h2
        go_wp2_with fail
        refine (H2.out _).mono ?_
        rintro e w' ⟨rfl, rfl⟩
        go_wp2_with fail
        refine (H1.out _).mono ?_
        rintro e w' ⟨rfl, rfl⟩
        go_wp2_with fail
        refine (H1.out _).mono ?_
        rintro e w' ⟨rfl, rfl⟩
        go_wp2
        go_roundw
        case rel => exact ⟨m + 1, by omega, by go_num, hbl⟩
        case measure => simp [intOf]; omega
    · skip
      go_wp2_with fail
      refine (R.HX.out _).mono ?_
      rintro e v51 ⟨rfl, hb51⟩
      have B51 := hbl.trans (hb51.mono hbl.size)
      clear hb51
      go_wp2_with fail
      refine (R.HY.out _).mono ?_
      rintro e v52 ⟨rfl, hb52⟩
      have B52 := B51.trans (hb52.mono B51.size)
      clear hb52
      go_wp2_with fail
      refine (R.HRr.out _).mono ?_
      rintro e w' ⟨rfl, rfl⟩
      go_wp2_with fail
      refine (R.HLr.out _).mono ?_
      rintro e w' ⟨rfl, rfl⟩
      go_wp2_with fail
      refine (HA1.out _).mono ?_
      rintro e w' ⟨rfl, rfl⟩
      go_wp2_with fail
      go_loopw [20, 21] (fun k _ wr => ∃ m : Nat, m ≤ n ∧ k = .int .i64 m ∧ Below w.heap.size w wr) (fun k _ _ => n - (intOf k).toNat)
      case atStart => exact ⟨0, by omega, rfl, B52⟩
      case round =>
        obtain ⟨m, hm, rfl, hbl⟩ := hrel
        by_cases hmn : m + 1 < n
        · obtain ⟨x, h1, h2⟩ := R.each.out m (by omega)
          have H1 := Lib.hid h1
          clear h1
          by_cases hmj : m < j
          · rw [if_pos hmj] at h2
            have H2 := Lib.hid h2
            clear h2
            go_wp2_with fail
            refine (H1.out _).mono ?_
            rintro e w' ⟨rfl, rfl⟩
            go_wp2_with fail
            refine (H2.out _).mono ?_
            rintro e w' ⟨rfl, rfl⟩
            go_wp2
            go_roundw
            case rel => exact ⟨m + 1, by omega, by go_num, hbl⟩
            case measure => simp [intOf]; omega
          · rw [if_neg hmj] at h2
            have H2 : Hid (∀ w, Calls Try.prog 13 #[.int .u64 p, .int .i64 ((m : Int) + 1)] w fun e w' => e = .returned (.int .i64 x) ∧ w = w') := Lib.hid fun w => by have := h2 w; simpa using this
            clear h2
            go_wp2_with fail
            refine (H1.out _).mono ?_
            rintro e w' ⟨rfl, rfl⟩
            go_wp2_with fail
            refine (H2.out _).mono ?_
            rintro e w' ⟨rfl, rfl⟩
            go_wp2
            go_roundw
            case rel => exact ⟨m + 1, by omega, by go_num, hbl⟩
            case measure => simp [intOf]; omega
        · go_wp2
          go_ret
          exact ⟨rfl, hbl⟩

set_option maxRecDepth 100000 in
set_option maxHeartbeats 4000000 in
theorem order_ins (a : Option Addr) (len cap p : Nat) (n j q s : Nat) (hn : n < 15) (hj : j ≤ n) (hj2 : n ≤ j) (I : InsPack p j n q s) (HX : Hid (RemNo p j)) (w : World) (hlen : len ≤ 300) (hn16 : n ≤ 15)
    (HW : Hid (∀ v, Below w.heap.size w v → Calls Try.prog 14 #[.slice a len cap] v fun e w' => e = .returned (.int .u64 p) ∧ Below v.heap.size v w')) (HL : Hid (LenIs p (n : Int))) (HR : Hid (RightIs p true)) :
    Calls Try.prog 4 #[.slice a len cap, .int .i64 j] w fun e w' => e = .returned (.bool true) ∧ Below w.heap.size w w' := by
  have d0 : decide ((n : Int) < 15) = true := by simp <;> omega
  have d1 : decide (0 ≤ (j : Int)) = true := by simp <;> omega
  have d2 : decide (j ≤ n) = true := by simp <;> omega
  have d3 : decide (j < n) = false := by simp <;> omega
  go_enter Try.func4, Try.ntmps4
  go_wp2_with fail
  refine (awake_any _).mono ?_
  rintro e v1 ⟨rfl, hb1⟩
  have B1 := hb1
  go_wp2_with fail
  refine (HW.out _ B1).mono ?_
  rintro e v2 ⟨rfl, hb2⟩
  have B2 := B1.trans (hb2.mono B1.size)
  clear hb2
  go_wp2_with fail
  refine (HL.out _).mono ?_
  rintro e w' ⟨rfl, rfl⟩
  go_wp2_with fail
  refine (HR.out _).mono ?_
  rintro e w' ⟨rfl, rfl⟩
  go_wp2_with fail
  refine (I.HI.out _).mono ?_
  rintro e v3 ⟨rfl, hb3⟩
  have B3 := B2.trans (hb3.mono B2.size)
  clear hb3
  go_wp2_with fail
  refine (I.HB.out _).mono ?_
  rintro e v4 ⟨rfl, hb4⟩
  have B4 := B3.trans (hb4.mono B3.size)
  clear hb4
  go_wp2_with fail
  refine (I.HRq.out _).mono ?_
  rintro e w' ⟨rfl, rfl⟩
  go_wp2_with fail
  refine (I.HLq.out _).mono ?_
  rintro e w' ⟨rfl, rfl⟩
  go_wp2_with fail
  refine (I.HQi.out _).mono ?_
  rintro e w' ⟨rfl, rfl⟩
  go_wp2_with fail
  go_loopw [13, 14] (fun k _ wr => ∃ m : Nat, m ≤ n ∧ k = .int .i64 m ∧ Below w.heap.size w wr) (fun k _ _ => n - (intOf k).toNat)
  case atStart => exact ⟨0, by omega, rfl, B4⟩
  case round =>
    obtain ⟨m, hm, rfl, hbl⟩ := hrel
    by_cases hmn : m < n
    · obtain ⟨x, hxs, h1, h2⟩ := I.each.out m hmn
      have H1 := Lib.hid h1
      have hne : ((x : Int) == (s : Int)) = false := by simp; omega
      clear h1 hxs
      by_cases hmj : m < j
      · rw [if_pos hmj] at h2
        have H2 := Lib.hid h2
        clear h2
        go_wp2_with fail
        refine (H2.out _).mono ?_
        rintro e w' ⟨rfl, rfl⟩
        go_wp2_with fail
        refine (H1.out _).mono ?_
        rintro e w' ⟨rfl, rfl⟩
        go_wp2_with fail
        refine (H1.out _).mono ?_
        rintro e w' ⟨rfl, rfl⟩
        go_wp2
        go_roundw
        case rel => exact ⟨m + 1, by omega, by go_num, hbl⟩
        case measure => simp [intOf]; omega
      · exact absurd (Nat.lt_of_lt_of_le hmn hj2) hmj
    · skip
      go_wp2_with fail
      refine (HX.out _).mono ?_
      rintro e w' ⟨rfl, rfl⟩
      go_wp2
      go_ret
      exact ⟨rfl, hbl⟩

set_option maxRecDepth 100000 in
set_option maxHeartbeats 4000000 in
theorem order_rem (a : Option Addr) (len cap p : Nat) (n j r t : Nat) (hn : 15 ≤ n) (hj : j < n) (HI : Hid (InsNo p j)) (R : RemPack p j n r t) (w : World) (hlen : len ≤ 300) (hn16 : n ≤ 15)
    (HW : Hid (∀ v, Below w.heap.size w v → Calls Try.prog 14 #[.slice a len cap] v fun e w' => e = .returned (.int .u64 p) ∧ Below v.heap.size v w')) (HL : Hid (LenIs p (n : Int))) (HR : Hid (RightIs p true)) :
    Calls Try.prog 4 #[.slice a len cap, .int .i64 j] w fun e w' => e = .returned (.bool true) ∧ Below w.heap.size w w' := by
  have d0 : decide ((n : Int) < 15) = false := by simp <;> omega
  have d1 : decide (0 ≤ (j : Int)) = true := by simp <;> omega
  have d2 : decide (j < n) = true := by simp <;> omega
  have HA1 : Hid (∀ w, Calls Try.prog 13 #[.int .u64 r, .int .i64 ((n : Int) - 1)] w fun e w' => e = .returned (.int .i64 t) ∧ w = w') := Lib.hid fun w => by have := R.HA.out w; rwa [show ((n - 1 : Nat) : Int) = (n : Int) - 1 by omega] at this
  go_enter Try.func4, Try.ntmps4
  go_wp2_with fail
  refine (awake_any _).mono ?_
  rintro e v1 ⟨rfl, hb1⟩
  have B1 := hb1
  go_wp2_with fail
  refine (HW.out _ B1).mono ?_
  rintro e v2 ⟨rfl, hb2⟩
  have B2 := B1.trans (hb2.mono B1.size)
  clear hb2
  go_wp2_with fail
  refine (HL.out _).mono ?_
  rintro e w' ⟨rfl, rfl⟩
  go_wp2_with fail
  refine (HR.out _).mono ?_
  rintro e w' ⟨rfl, rfl⟩
  go_wp2_with fail
  refine (HI.out _).mono ?_
  rintro e w' ⟨rfl, rfl⟩
  go_wp2_with fail
  refine (R.HX.out _).mono ?_
  rintro e v51 ⟨rfl, hb51⟩
  have B51 := B2.trans (hb51.mono B2.size)
  clear hb51
  go_wp2_with fail
  refine (R.HY.out _).mono ?_
  rintro e v52 ⟨rfl, hb52⟩
  have B52 := B51.trans (hb52.mono B51.size)
  clear hb52
  go_wp2_with fail
  refine (R.HRr.out _).mono ?_
  rintro e w' ⟨rfl, rfl⟩
  go_wp2_with fail
  refine (R.HLr.out _).mono ?_
  rintro e w' ⟨rfl, rfl⟩
  go_wp2_with fail
  refine (HA1.out _).mono ?_
  rintro e w' ⟨rfl, rfl⟩
  go_wp2_with fail
  go_loopw [20, 21] (fun k _ wr => ∃ m : Nat, m ≤ n ∧ k = .int .i64 m ∧ Below w.heap.size w wr) (fun k _ _ => n - (intOf k).toNat)
  case atStart => exact ⟨0, by omega, rfl, B52⟩
  case round =>
    obtain ⟨m, hm, rfl, hbl⟩ := hrel
    by_cases hmn : m + 1 < n
    · obtain ⟨x, h1, h2⟩ := R.each.out m (by omega)
      have H1 := Lib.hid h1
      clear h1
      by_cases hmj : m < j
      · rw [if_pos hmj] at h2
        have H2 := Lib.hid h2
        clear h2
        go_wp2_with fail
        refine (H1.out _).mono ?_
        rintro e w' ⟨rfl, rfl⟩
        go_wp2_with fail
        refine (H2.out _).mono ?_
        rintro e w' ⟨rfl, rfl⟩
        go_wp2
        go_roundw
        case rel => exact ⟨m + 1, by omega, by go_num, hbl⟩
        case measure => simp [intOf]; omega
      · rw [if_neg hmj] at h2
        have H2 : Hid (∀ w, Calls Try.prog 13 #[.int .u64 p, .int .i64 ((m : Int) + 1)] w fun e w' => e = .returned (.int .i64 x) ∧ w = w') := Lib.hid fun w => by have := h2 w; simpa using this
        clear h2
        go_wp2_with fail
        refine (H1.out _).mono ?_
        rintro e w' ⟨rfl, rfl⟩
        go_wp2_with fail
        refine (H2.out _).mono ?_
        rintro e w' ⟨rfl, rfl⟩
        go_wp2
        go_roundw
        case rel => exact ⟨m + 1, by omega, by go_num, hbl⟩
        case measure => simp [intOf]; omega
    · go_wp2
      go_ret
      exact ⟨rfl, hbl⟩

set_option maxRecDepth 100000 in
set_option maxHeartbeats 4000000 in
theorem order_none (a : Option Addr) (len cap p : Nat) (n : Nat) (i : Int) (h : (i < 0 ∧ n < 15) ∨ (i < 0 ∧ 15 ≤ n) ∨ (15 ≤ n ∧ 0 ≤ i ∧ (n : Int) ≤ i) ∨ (n < 15 ∧ 0 ≤ i ∧ (n : Int) < i)) (HI : Hid (InsNo p i)) (HX : Hid (RemNo p i)) (w : World) (hlen : len ≤ 300) (hn16 : n ≤ 15)
    (HW : Hid (∀ v, Below w.heap.size w v → Calls Try.prog 14 #[.slice a len cap] v fun e w' => e = .returned (.int .u64 p) ∧ Below v.heap.size v w')) (HL : Hid (LenIs p (n : Int))) (HR : Hid (RightIs p true)) :
    Calls Try.prog 4 #[.slice a len cap, .int .i64 i] w fun e w' => e = .returned (.bool true) ∧ Below w.heap.size w w' := by
  rcases h with ⟨h, h2⟩ | ⟨h, h2⟩ | ⟨h, h2, h3⟩ | ⟨h, h2, h3⟩
  all_goals
    go_enter Try.func4, Try.ntmps4
    go_wp2_with fail
    refine (awake_any _).mono ?_
    rintro e v1 ⟨rfl, hb1⟩
    have B1 := hb1
    go_wp2_with fail
    refine (HW.out _ B1).mono ?_
    rintro e v2 ⟨rfl, hb2⟩
    have B2 := B1.trans (hb2.mono B1.size)
    clear hb2
    go_wp2_with fail
    refine (HL.out _).mono ?_
    rintro e w' ⟨rfl, rfl⟩
    go_wp2_with fail
    refine (HR.out _).mono ?_
    rintro e w' ⟨rfl, rfl⟩
    go_wp2_with fail
    refine (HI.out _).mono ?_
    rintro e w' ⟨rfl, rfl⟩
    go_wp2_with fail
    refine (HX.out _).mono ?_
    rintro e w' ⟨rfl, rfl⟩
    go_wp2
    go_ret
    exact ⟨rfl, B2⟩

set_option maxRecDepth 100000 in
theorem permOrder_walk (a : Option Addr) (len cap : Nat) (zs : List Nat) (i : Int) (w : World) (hz : IsBytes w a len zs) (wi : (Lit.int .i64 i).wf = true) :
    Calls Try.prog 4 #[.slice a len cap, .int .i64 i] w fun e w' => e = .returned (.bool true) ∧ Below w.heap.size w w' := by
  clear wi
  by_cases hlen : len ≤ 300
  · obtain ⟨hp, hr⟩ := wordOf_right zs
    have HW : Hid (∀ v, Below w.heap.size w v → Calls Try.prog 14 #[.slice a len cap] v fun e w' => e = .returned (.int .u64 (wordOf zs)) ∧ Below v.heap.size v w') := Lib.hid fun v hv => word_any a len cap zs v (hz.later hv) hlen
    obtain ⟨p, hpe⟩ : ∃ p, p = wordOf zs := ⟨_, rfl⟩
    rw [← hpe] at HW hp hr
    clear hpe
    have HR := Lib.hid (right_is p hp hr)
    obtain ⟨n, hn⟩ : ∃ n, n = p % 16 := ⟨_, rfl⟩
    have HL : Hid (LenIs p (n : Int)) := Lib.hid fun w => by rw [hn]; exact len_any p w hp
    have hn16 : n ≤ 15 := by omega
    have hremno : i < 0 ∨ (n : Int) ≤ i → Hid (RemNo p i) := fun h => Lib.hid fun w => remove_no p i w hp (.inr (by omega))
    have hinsno : 15 ≤ n ∨ i < 0 ∨ (n : Int) < i → Hid (InsNo p i) := fun h => Lib.hid fun w => insert_no p i w hp (.inr (by omega))
    by_cases hi : (i < 0 ∧ n < 15) ∨ (i < 0 ∧ 15 ≤ n) ∨ (15 ≤ n ∧ 0 ≤ i ∧ (n : Int) ≤ i) ∨ (n < 15 ∧ 0 ≤ i ∧ (n : Int) < i)
    · exact order_none a len cap p n i hi (hinsno (by omega)) (hremno (by omega)) w hlen hn16 HW HL HR
    · obtain ⟨j, rfl⟩ : ∃ j : Nat, i = j := ⟨i.toNat, by omega⟩
      by_cases h15 : n < 15
      · obtain ⟨q, s, I⟩ := ins_pack hp hr hn h15 (by omega : j ≤ n)
        by_cases hj : j < n
        · obtain ⟨r, t, R⟩ := rem_pack hp hr hn hj
          exact order_both a len cap p n j q s r t h15 hj I R w hlen hn16 HW HL HR
        · exact order_ins a len cap p n j q s h15 (by omega) (by omega) I (hremno (by omega)) w hlen hn16 HW HL HR
      · obtain ⟨r, t, R⟩ := rem_pack hp hr hn (by omega : j < n)
        exact order_rem a len cap p n j r t (by omega) (by omega) (hinsno (by omega)) R w hlen hn16 HW HL HR
  · clear hz
    go_enter Try.func4, Try.ntmps4
    go_wp2_with fail
    refine (awake_any _).mono ?_
    rintro e v1 ⟨rfl, hb1⟩
    go_wp2
    go_ret
    exact ⟨rfl, hb1⟩
end Go.Proofs.Ytffeegpjnibdnaa
