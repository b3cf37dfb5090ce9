/- The words behind acts are right; what Insert and Remove make of a right word; the walk of the law PermOrder. -/
import Derived.Test.YtffeegpjnibdnaaPermB
import Derived.Test.YtffeegpjnibdnaaSB
namespace Go.Proofs.Ytffeegpjnibdnaa
open Go.RowKit
set_option linter.unusedVariables false

def insStep (p i : Nat) : Nat := if p % 16 < 15 ∧ i ≤ p % 16 then insW p i else p
def remStep (p i : Nat) : Nat := if i < p % 16 then remW p i else p
theorem insStep_right {p i : Nat} (hp : p < 18446744073709551616) (hr : Rt (slots p)) : insStep p i < 18446744073709551616 ∧ Rt (slots (insStep p i)) := by
  unfold insStep
  split
  · rename_i h; have f := ins_facts hp hr h.1 h.2; exact ⟨f.lt, f.rt⟩
  · exact ⟨hp, hr⟩
theorem remStep_right {p i : Nat} (hp : p < 18446744073709551616) (hr : Rt (slots p)) : remStep p i < 18446744073709551616 ∧ Rt (slots (remStep p i)) := by
  unfold remStep
  split
  · rename_i h; have f := rem_facts hp hr h; exact ⟨f.lt, f.rt⟩
  · exact ⟨hp, hr⟩
/-- Of Insert, Remove at a right word: the word. -/
def KeepPost (w : World) (q : Nat) (e : Ending) (w' : World) : Prop := ∃ (s : Int) (b : Bool), e = .returned (.tuple #[.int .u64 q, .int .i64 s, .bool b]) ∧ Below w.heap.size w w'
theorem insert_keep (p i : Nat) (w : World) (hp : p < 18446744073709551616) (hr : Rt (slots p)) :
    Calls Try.prog 8 #[.int .u64 p, .int .i64 i] w (KeepPost w (insStep p i)) := by
  unfold insStep
  by_cases h : p % 16 < 15 ∧ i ≤ p % 16
  · rw [if_pos h]
    exact (insert_yes p i w hp hr h.1 h.2).mono fun e w' ⟨he, hw⟩ => ⟨_, _, he, hw⟩
  · rw [if_neg h]
    exact (insert_no p i w hp (.inr (by omega))).mono fun e w' ⟨he, hw⟩ => ⟨_, _, he, hw ▸ Below.refl _ _⟩
theorem remove_keep (p i : Nat) (w : World) (hp : p < 18446744073709551616) (hr : Rt (slots p)) :
    Calls Try.prog 10 #[.int .u64 p, .int .i64 i] w (KeepPost w (remStep p i)) := by
  unfold remStep
  by_cases h : i < p % 16
  · rw [if_pos h]
    exact (remove_yes p i w hp hr h).mono fun e w' ⟨he, hw⟩ => ⟨_, _, he, hw⟩
  · rw [if_neg h]
    exact (remove_no p i w hp (.inr (by omega))).mono fun e w' ⟨he, hw⟩ => ⟨_, _, he, hw ▸ Below.refl _ _⟩

def stepW (p x : Nat) : Nat := if x < 128 then insStep p (x % 16) else remStep p (x % 16)
/-- The word behind acts. -/
def wordOf (zs : List Nat) : Nat := zs.foldl stepW 17134975606245761280
theorem empty_right : Rt (slots 17134975606245761280) := (rt_iff _).1 (by decide)
theorem foldl_right (zs : List Nat) : ∀ p, p < 18446744073709551616 → Rt (slots p) → zs.foldl stepW p < 18446744073709551616 ∧ Rt (slots (zs.foldl stepW p)) := by
  induction zs with
  | nil => exact fun p hp hr => ⟨hp, hr⟩
  | cons x r ih =>
    intro p hp hr
    have h : stepW p x < 18446744073709551616 ∧ Rt (slots (stepW p x)) := by
      unfold stepW
      split
      · exact insStep_right hp hr
      · exact remStep_right hp hr
    exact ih _ h.1 h.2
theorem wordOf_right (zs : List Nat) : wordOf zs < 18446744073709551616 ∧ Rt (slots (wordOf zs)) := foldl_right zs _ (by decide) empty_right
theorem wordOf_take (zs : List Nat) (k : Nat) (h : k < zs.length) : wordOf (zs.take (k + 1)) = stepW (wordOf (zs.take k)) (zs.getD k 0) := by
  unfold wordOf
  rw [List.take_add_one, List.foldl_append, List.getD_eq_getElem?_getD, List.getElem?_eq_getElem h]
  rfl

set_option maxRecDepth 20000 in
set_option maxHeartbeats 400000 in
theorem word_any (a : Option Addr) (len cap : Nat) (zs : List Nat) (w : World) (hz : IsBytes w a len zs) (hlen : len ≤ 300) :
    Calls Try.prog 14 #[.slice a len cap] w fun e w' => e = .returned (.int .u64 (wordOf zs)) ∧ Below w.heap.size w w' := by
  obtain ⟨hl, hx, hc⟩ := hz
  have HX := Lib.hid hx
  have HL := Lib.hid hl
  have HC := Lib.hid hc
  have HF : Hid (wordOf (zs.take len) = wordOf zs) := Lib.hid (by rw [List.take_of_length_le (by omega)])
  clear hx hl hc
  go_enter Try.func14, Try.ntmps14
  go_wp2_with fail
  refine (empty_any _).mono ?_
  rintro e w' ⟨rfl, rfl⟩
  go_wp2_with fail
  go_loopw [3, 4] (fun x i wr => ∃ k : Nat, k ≤ len ∧ i = .int .i64 k ∧ x = .int .u64 (wordOf (zs.take k)) ∧ Below w.heap.size w wr) (fun _ i _ => len - (intOf i).toNat)
  case atStart => exact ⟨0, by omega, rfl, rfl, Below.refl _ _⟩
  case round =>
    obtain ⟨k, hk, rfl, rfl, hbel⟩ := hrel
    by_cases hlt : k < len
    · obtain ⟨b, off, rfl, hbw, hcell⟩ := HC.out (by omega)
      obtain ⟨x, hx⟩ : ∃ x, x = zs.getD k 0 := ⟨_, rfl⟩
      have hv : wr.cell? ⟨b, off + k, none⟩ = some (.int .u8 (x : Nat)) := by
        rw [hbel.cell (p := ⟨b, off + k, none⟩) hbw, hx]; exact hcell k hlt
      have hx256 : x < 256 := by
        rw [hx, List.getD_eq_getElem?_getD, List.getElem?_eq_getElem (by rw [HL.out]; exact hlt)]
        exact HX.out _ (List.getElem_mem _)
      have HS := Lib.hid (wordOf_take zs k (by rw [HL.out]; exact hlt))
      rw [← hx] at HS
      have HP := Lib.hid (wordOf_right (zs.take k))
      obtain ⟨p, hp⟩ : ∃ p, p = wordOf (zs.take k) := ⟨_, rfl⟩
      rw [← hp] at HS HP ⊢
      clear hx hcell hp
      have HK1 : Hid (x < 128 → ∀ w, Calls Try.prog 8 #[.int .u64 p, .int .i64 ((x : Int) % 16)] w (KeepPost w (stepW p x))) := Lib.hid fun h w => by
        have := insert_keep p (x % 16) w HP.out.1 HP.out.2
        unfold stepW; rw [if_pos h]; simpa using this
      have HK2 : Hid (¬ x < 128 → ∀ w, Calls Try.prog 10 #[.int .u64 p, .int .i64 ((x : Int) % 16)] w (KeepPost w (stepW p x))) := Lib.hid fun h w => by
        have := remove_keep p (x % 16) w HP.out.1 HP.out.2
        unfold stepW; rw [if_neg h]; simpa using this
      by_cases h128 : x < 128
      · go_wp2_with fail
        refine (HK1.out h128 _).mono ?_
        rintro e w1 ⟨s, b', rfl, hb1⟩
        go_wp2
        go_roundw
        case rel => exact ⟨k + 1, by omega, by go_num, by rw [HS.out], hbel.trans (hb1.mono hbel.size)⟩
        case measure => simp [intOf]; omega
      · go_wp2_with fail
        refine (HK2.out h128 _).mono ?_
        rintro e w1 ⟨s, b', rfl, hb1⟩
        go_wp2
        go_roundw
        case rel => exact ⟨k + 1, by omega, by go_num, by rw [HS.out], hbel.trans (hb1.mono hbel.size)⟩
        case measure => simp [intOf]; omega
    · obtain rfl : k = len := by omega
      rw [HF.out]
      go_wp2
      go_ret
      exact ⟨rfl, hbel⟩
end Go.Proofs.Ytffeegpjnibdnaa
