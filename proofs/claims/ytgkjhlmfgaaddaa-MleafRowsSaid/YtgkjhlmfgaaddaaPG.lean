/- Parts of the frame, one behind the other: PermM PermN PermC PermV PermI. (Printed by merge.py.) -/
import Derived.WalkKit
import Derived.Laws.BitsAllLaws
import Derived.Test.YtgkjhlmfgaaddaaProg
import Derived.WalkSpells
import Derived.WalkLawsBesides
import Derived.BigQuiet
import Derived.Lib.Hide
import Derived.IntWalk
import Derived.Laws.CopyOwn
import Derived.Laws.Rows
set_option linter.unusedVariables false
set_option linter.unusedSimpArgs false
section
/- Plain facts on the words of layer 13 (perm): a word is its count and fifteen slots. No program in sight. -/
namespace Go.Proofs.Ytgkjhlmfgaaddaa

/-- The number in a place. -/
def nib (p i : Nat) : Nat := p / 16 ^ (i + 1) % 16
theorem nib_lt (p i : Nat) : nib p i < 16 := Nat.mod_lt _ (by omega)
def slots (p : Nat) : List Nat := (List.range 15).map (nib p)
theorem slots_length (p : Nat) : (slots p).length = 15 := by simp [slots]
theorem slots_get (p i : Nat) (h : i < 15) : (slots p)[i]? = some (nib p i) := by simp [slots, h]
theorem slots_lt (p : Nat) : ∀ x ∈ slots p, x < 16 := by
  intro x hx
  obtain ⟨i, _, rfl⟩ := List.mem_map.1 hx
  exact nib_lt p i

/-- A list of numbers below 16 as one number, the first one the lowest. -/
def dig : List Nat → Nat
  | [] => 0
  | x :: r => x + 16 * dig r
/-- A word of a count and slots. -/
def wd (c : Nat) (l : List Nat) : Nat := c + 16 * dig l

theorem dig_lt : ∀ (l : List Nat), (∀ x ∈ l, x < 16) → dig l < 16 ^ l.length
  | [], _ => by simp [dig]
  | x :: r, h => by
    have h1 := dig_lt r (fun y hy => h y (List.mem_cons_of_mem _ hy))
    have h2 := h x List.mem_cons_self
    rw [dig, List.length_cons, Nat.pow_succ]
    omega
theorem wd_lt {c : Nat} {l : List Nat} (hc : c < 16) (hl : l.length = 15) (h : ∀ x ∈ l, x < 16) : wd c l < 18446744073709551616 := by
  have := dig_lt l h
  rw [hl] at this
  unfold wd
  have e : (16 : Nat) ^ 15 = 1152921504606846976 := by decide
  omega
theorem wd_mod {c : Nat} (l : List Nat) (hc : c < 16) : wd c l % 16 = c := by unfold wd; omega
theorem wd_add (c : Nat) (l : List Nat) (d : Nat) : wd c l + d = wd (c + d) l := by unfold wd; omega
theorem dig_get : ∀ (l : List Nat) (i : Nat), (∀ x ∈ l, x < 16) → dig l / 16 ^ i % 16 = l.getD i 0
  | [], i, _ => by simp [dig]
  | x :: r, 0, h => by
    have h2 := h x List.mem_cons_self
    simp [dig]; omega
  | x :: r, i + 1, h => by
    have ih := dig_get r i (fun y hy => h y (List.mem_cons_of_mem _ hy))
    have h2 := h x List.mem_cons_self
    rw [Nat.pow_succ', ← Nat.div_div_eq_div_mul, dig, show (x + 16 * dig r) / 16 = dig r by omega, ih]
    simp
theorem nib_wd {c : Nat} {l : List Nat} (i : Nat) (hc : c < 16) (h : ∀ x ∈ l, x < 16) : nib (wd c l) i = l.getD i 0 := by
  unfold nib wd
  rw [Nat.pow_succ', ← Nat.div_div_eq_div_mul, show (c + 16 * dig l) / 16 = dig l by omega, dig_get l i h]
theorem slots_wd {c : Nat} {l : List Nat} (hc : c < 16) (hl : l.length = 15) (h : ∀ x ∈ l, x < 16) : slots (wd c l) = l := by
  apply List.ext_getElem?
  intro i
  by_cases hi : i < 15
  · rw [slots_get _ _ hi, nib_wd i hc h, List.getD_eq_getElem?_getD, List.getElem?_eq_getElem (by omega)]
    rfl
  · rw [List.getElem?_eq_none (by rw [slots_length]; omega), List.getElem?_eq_none (by omega)]
theorem dig_slots : ∀ (n : Nat) (p : Nat), p < 16 ^ n → dig ((List.range n).map fun i => p / 16 ^ i % 16) = p
  | 0, p, h => by simp [dig]; omega
  | n + 1, p, h => by
    have ih := dig_slots n (p / 16) (by rw [Nat.pow_succ] at h; omega)
    rw [List.range_succ_eq_map, List.map_cons, List.map_map, dig]
    have e : ((fun i => p / 16 ^ i % 16) ∘ Nat.succ) = fun i => p / 16 / 16 ^ i % 16 := by
      funext i
      simp only [Function.comp, Nat.succ_eq_add_one]
      rw [Nat.pow_succ', Nat.div_div_eq_div_mul]
    rw [e, ih]
    simp
    omega
theorem wd_slots (p : Nat) (h : p < 18446744073709551616) : wd (p % 16) (slots p) = p := by
  have e : slots p = (List.range 15).map fun i => p / 16 / 16 ^ i % 16 := by
    unfold slots
    apply List.map_congr_left
    intro i _
    unfold nib
    rw [Nat.pow_succ', Nat.div_div_eq_div_mul]
  have h15 : (16 : Nat) ^ 15 = 1152921504606846976 := by decide
  unfold wd
  rw [e, dig_slots 15 (p / 16) (by omega)]
  omega
theorem wd_inj {c d : Nat} {l m : List Nat} (hc : c < 16) (hd : d < 16) (hl : l.length = 15) (hm : m.length = 15) (kl : ∀ x ∈ l, x < 16) (km : ∀ x ∈ m, x < 16) (h : wd c l = wd d m) : c = d ∧ l = m :=
  ⟨by rw [← wd_mod l hc, h, wd_mod m hd], by rw [← slots_wd hc hl kl, h, slots_wd hd hm km]⟩

/-! ### Right words -/
/-- Each number below 15 is there. -/
def Rt (l : List Nat) : Prop := ∀ x, x < 15 → x ∈ l
def rt (l : List Nat) : Bool := (List.range 15).all (l.contains ·)
theorem rt_iff (l : List Nat) : rt l = true ↔ Rt l := by simp [rt, Rt]
theorem rt_yes {l : List Nat} (h : Rt l) : rt l = true := (rt_iff l).2 h
theorem rt_no {l : List Nat} (h : ¬ Rt l) : rt l = false := by cases e : rt l; rfl; exact absurd ((rt_iff l).1 e) h

theorem below_len : ∀ (n : Nat) (l : List Nat), (∀ x, x < n → x ∈ l) → n ≤ l.length
  | 0, _, _ => Nat.zero_le _
  | n + 1, l, h => by
    have ih := below_len n (l.erase n) (fun x hx => (List.mem_erase_of_ne (by omega)).2 (h x (by omega)))
    have hm := h n (by omega)
    have := List.length_erase_of_mem hm
    have := List.length_pos_of_mem hm
    omega
theorem rt_nodup : ∀ (n : Nat) (l : List Nat), l.length = n → (∀ x, x < n → x ∈ l) → l.Nodup ∧ ∀ x ∈ l, x < n
  | 0, l, hl, _ => by rw [List.length_eq_zero_iff.1 hl]; simp
  | n + 1, l, hl, h => by
    have hm := h n (by omega)
    have hp := List.perm_cons_erase hm
    have hlen := List.length_erase_of_mem hm
    obtain ⟨ih1, ih2⟩ := rt_nodup n (l.erase n) (by omega) (fun x hx => (List.mem_erase_of_ne (by omega)).2 (h x (by omega)))
    constructor
    · rw [hp.nodup_iff, List.nodup_cons]
      exact ⟨fun hn => by have := ih2 n hn; omega, ih1⟩
    · intro x hx
      rw [hp.mem_iff, List.mem_cons] at hx
      rcases hx with rfl | hx
      · omega
      · have := ih2 x hx; omega
theorem nodup_rt : ∀ (n : Nat) (l : List Nat), l.length = n → l.Nodup → (∀ x ∈ l, x < n) → ∀ x, x < n → x ∈ l
  | 0, _, _, _, _ => fun x h => by omega
  | n + 1, l, hl, hd, h => by
    by_cases hm : n ∈ l
    · have hp := List.perm_cons_erase hm
      have hlen := List.length_erase_of_mem hm
      have hd' := hp.nodup_iff.1 hd
      rw [List.nodup_cons] at hd'
      have ih := nodup_rt n (l.erase n) (by omega) hd'.2 (fun x hx => by
        have h1 := h x (List.mem_of_mem_erase hx)
        have h2 : x ≠ n := fun e => hd'.1 (e ▸ hx)
        omega)
      intro x hx
      by_cases e : x = n
      · exact e ▸ hm
      · exact List.mem_of_mem_erase (ih x (by omega))
    · exfalso
      have h' : ∀ x ∈ l, x < n := fun x hx => by
        have h1 := h x hx
        have h2 : x ≠ n := fun e => hm (e ▸ hx)
        omega
      have : ∀ (m : Nat) (l : List Nat), l.Nodup → (∀ x ∈ l, x < m) → l.length ≤ m := by
        intro m
        induction m with
        | zero => intro l _ hx; cases l with
          | nil => simp
          | cons a r => exact absurd (hx a List.mem_cons_self) (by omega)
        | succ m ih =>
          intro l hd hx
          have h1 := ih (l.erase m) (hd.erase m) (fun x hxm => by
            have := hx x (List.mem_of_mem_erase hxm)
            have : x ≠ m := fun e => by subst e; exact (hd.not_mem_erase) hxm
            omega)
          by_cases hml : m ∈ l
          · have h2 := List.length_erase_of_mem hml
            omega
          · rw [List.erase_of_not_mem hml] at h1
            omega
      have := this n l hd h'
      omega

/-! ### The bits that are seen -/
def orb : List Nat → Nat
  | [] => 0
  | x :: r => 2 ^ x ||| orb r
theorem orb_bit : ∀ (l : List Nat) (j : Nat), (orb l).testBit j = decide (j ∈ l)
  | [], j => by simp [orb]
  | x :: r, j => by
    rw [orb, Nat.testBit_or, orb_bit r j, Nat.testBit_two_pow, Bool.eq_iff_iff]
    simp only [Bool.or_eq_true, decide_eq_true_iff, List.mem_cons]
    exact ⟨fun h => h.elim (fun e => .inl e.symm) .inr, fun h => h.elim (fun e => .inl e.symm) .inr⟩
theorem orb_snoc (l : List Nat) (x : Nat) : orb (l ++ [x]) = orb l ||| 2 ^ x := by
  apply Nat.eq_of_testBit_eq
  intro j
  rw [Nat.testBit_or, orb_bit, orb_bit, Nat.testBit_two_pow, Bool.eq_iff_iff]
  simp only [Bool.or_eq_true, decide_eq_true_iff, List.mem_append, List.mem_singleton]
  exact ⟨fun h => h.elim .inl (fun e => .inr e.symm), fun h => h.elim .inl (fun e => .inr e.symm)⟩
theorem orb_lt (l : List Nat) (h : ∀ x ∈ l, x < 16) : orb l < 65536 := by
  have : orb l < 2 ^ 16 := Nat.lt_pow_two_of_testBit _ fun i hi => by
    rw [orb_bit]
    simp only [decide_eq_false_iff_not]
    intro hm
    have := h i hm
    omega
  exact this
theorem orb_all (l : List Nat) (hl : l.length = 15) : orb l = 32767 ↔ Rt l := by
  constructor
  · intro h x hx
    have hb := orb_bit l x
    rw [h, show (32767 : Nat) = 2 ^ 15 - 1 by rfl, Nat.testBit_two_pow_sub_one] at hb
    simpa [hx] using hb.symm
  · intro h
    obtain ⟨_, hb⟩ := rt_nodup 15 l hl h
    apply Nat.eq_of_testBit_eq
    intro j
    rw [orb_bit, show (32767 : Nat) = 2 ^ 15 - 1 by rfl, Nat.testBit_two_pow_sub_one, Bool.eq_iff_iff]
    simp only [decide_eq_true_iff]
    exact ⟨fun hm => hb j hm, fun hj => h j hj⟩
theorem wrap_i64_at (n : Nat) (h : n < 9223372036854775808) : IntKind.i64.wrap (n : Int) = (n : Int) := by
  have e : (n : Int) % 2 ^ 64 = n := Int.emod_eq_of_lt (by omega) (by omega)
  simp only [IntKind.wrap, IntKind.bits, IntKind.signed, e]
  rw [if_neg]
  simp
  omega
theorem i64_or_nat (a b : Nat) (ha : a < 65536) (hb : b < 65536) : bits .or .i64 (a : Int) (b : Int) = ((a ||| b : Nat) : Int) := by
  show IntKind.i64.wrap ((BitVec.ofInt 64 (a : Int) ||| BitVec.ofInt 64 (b : Int)).toNat : Int) = _
  have := Nat.or_lt_two_pow (x := a) (y := b) (n := 16) ha hb
  rw [BitVec.toNat_or, ofInt_u64 a (by omega), ofInt_u64 b (by omega)]
  exact wrap_i64_at _ (by omega)

/-! ### A number is taken out, and put in at another place -/
def ers (l : List Nat) (a : Nat) : List Nat := l.take a ++ l.drop (a + 1)
def ins (e : List Nat) (b x : Nat) : List Nat := e.take b ++ x :: e.drop b
def mv (l : List Nat) (a b : Nat) : List Nat := ins (ers l a) b (l.getD a 0)
theorem ers_length {l : List Nat} {a : Nat} (h : a < l.length) : (ers l a).length = l.length - 1 := by simp [ers]; omega
theorem ins_length {e : List Nat} {b x : Nat} (h : b ≤ e.length) : (ins e b x).length = e.length + 1 := by simp [ins]; omega
theorem getD_eq {l : List Nat} {a : Nat} (h : a < l.length) : l.getD a 0 = l[a] := by rw [List.getD_eq_getElem?_getD, List.getElem?_eq_getElem h]; rfl
theorem ins_ers {l : List Nat} {a : Nat} (h : a < l.length) : ins (ers l a) a (l.getD a 0) = l := by
  unfold ins ers
  rw [List.take_left' (by simp; omega), List.drop_left' (by simp; omega), getD_eq h, List.getElem_cons_drop h, List.take_append_drop]
theorem ers_ins {e : List Nat} {b x : Nat} (h : b ≤ e.length) : ers (ins e b x) b = e := by
  unfold ins ers
  rw [List.take_left' (by simp; omega)]
  have : (e.take b ++ x :: e.drop b).drop (b + 1) = e.drop b := by
    rw [show e.take b ++ x :: e.drop b = (e.take b ++ [x]) ++ e.drop b by simp, List.drop_left' (by simp; omega)]
  rw [this, List.take_append_drop]
theorem ins_get {e : List Nat} {b x : Nat} (h : b ≤ e.length) : (ins e b x).getD b 0 = x := by
  unfold ins
  rw [List.getD_eq_getElem?_getD, List.getElem?_append_right (by simp; omega)]
  simp [Nat.min_eq_left h]
theorem ins_perm (e : List Nat) (b x : Nat) : (ins e b x).Perm (x :: e) := by
  unfold ins
  exact List.perm_middle.trans (by rw [List.take_append_drop])
theorem ers_perm {l : List Nat} {a : Nat} (h : a < l.length) : l.Perm (l.getD a 0 :: ers l a) := by
  have := ins_perm (ers l a) a (l.getD a 0)
  rwa [ins_ers h] at this
theorem mv_length {l : List Nat} {a b : Nat} (ha : a < l.length) (hb : b < l.length) : (mv l a b).length = l.length := by
  unfold mv
  rw [ins_length (by rw [ers_length ha]; omega), ers_length ha]
  omega
theorem mv_perm {l : List Nat} {a b : Nat} (ha : a < l.length) : (mv l a b).Perm l := (ins_perm _ _ _).trans (ers_perm ha).symm
theorem mv_mem {l : List Nat} {a b : Nat} (ha : a < l.length) (x : Nat) : x ∈ mv l a b ↔ x ∈ l := (mv_perm ha).mem_iff
theorem mv_Rt {l : List Nat} {a b : Nat} (ha : a < l.length) (h : Rt l) : Rt (mv l a b) := fun x hx => (mv_mem ha x).2 (h x hx)
theorem mv_below {l : List Nat} {a b n : Nat} (ha : a < l.length) (h : ∀ x ∈ l, x < n) : ∀ x ∈ mv l a b, x < n := fun x hx => h x ((mv_mem ha x).1 hx)
theorem mv_get {l : List Nat} {a b : Nat} (ha : a < l.length) (hb : b < l.length) : (mv l a b).getD b 0 = l.getD a 0 := ins_get (by rw [ers_length ha]; omega)
theorem mv_back {l : List Nat} {a b : Nat} (ha : a < l.length) (hb : b < l.length) : mv (mv l a b) b a = l := by
  have h1 := mv_get ha hb
  unfold mv at h1 ⊢
  rw [h1, ers_ins (by rw [ers_length ha]; omega), ins_ers ha]
end Go.Proofs.Ytgkjhlmfgaaddaa
end

section
/- Plain facts on words: what is right has no number twice. -/
namespace Go.Proofs.Ytgkjhlmfgaaddaa
open Go.RowKit
set_option linter.unusedVariables false

theorem php : ∀ (n : Nat) (l : List Nat), l.length = n → (∀ x, x < n → x ∈ l) → l.Nodup ∧ ∀ x ∈ l, x < n
  | 0, l, hl, _ => by
    obtain rfl := List.length_eq_zero_iff.1 hl
    simp
  | n + 1, l, hl, h => by
    have hm := h n (by omega)
    have hp := List.perm_cons_erase hm
    have ih := php n (l.erase n) (by rw [List.length_erase_of_mem hm]; omega) (fun x hx => (List.mem_erase_of_ne (by omega)).2 (h x (by omega)))
    refine ⟨hp.nodup_iff.2 (List.nodup_cons.2 ⟨fun e => absurd (ih.2 n e) (by omega), ih.1⟩), fun x hx => ?_⟩
    rcases List.mem_cons.1 (hp.mem_iff.1 hx) with rfl | h1
    · omega
    · have := ih.2 x h1; omega
theorem nodup_len : ∀ (n : Nat) (l : List Nat), l.Nodup → (∀ x ∈ l, x < n) → l.length ≤ n
  | 0, l, _, h => by
    cases l with
    | nil => simp
    | cons a r => exact absurd (h a (by simp)) (by omega)
  | n + 1, l, hn, h => by
    by_cases hm : n ∈ l
    · have ih := nodup_len n (l.erase n) (hn.erase _) (fun x hx => by
        have h1 := h x (List.mem_of_mem_erase hx)
        have h2 : x ≠ n := fun e => by subst e; exact absurd hx (hn.not_mem_erase)
        omega)
      rw [List.length_erase_of_mem hm] at ih
      omega
    · have ih := nodup_len n l hn (fun x hx => by
        have h1 := h x hx
        have h2 : x ≠ n := fun e => hm (e ▸ hx)
        omega)
      omega
theorem rt_parts (p : Nat) : Rt (slots p) ↔ (slots p).Nodup ∧ ∀ x ∈ slots p, x < 15 := by
  have hl := slots_length p
  constructor
  · intro h; exact php 15 _ hl h
  · rintro ⟨h1, h2⟩ x hx
    apply Classical.byContradiction
    intro hn
    have := nodup_len 15 (x :: slots p) (List.nodup_cons.2 ⟨hn, h1⟩) (fun y hy => by
      rcases List.mem_cons.1 hy with rfl | h3
      · exact hx
      · exact h2 y h3)
    simp [hl] at this
end Go.Proofs.Ytgkjhlmfgaaddaa
end

section
/- The contracts of layer 13 (perm): At, Len, Empty, Right. -/
namespace Go.Proofs.Ytgkjhlmfgaaddaa
open Go.RowKit
set_option linter.unusedVariables false

theorem and15 (n : Nat) (h : n < 18446744073709551616) : wrap64 (bits .and .u64 (n : Int) 15) = ((n % 16 : Nat) : Int) := by
  have e : bits .and .u64 (n : Int) 15 = ((n % 16 : Nat) : Int) := by
    rw [← nat_mask4]; exact u64_and_nat n 15 h (by omega)
  rw [e, IntWalk.wrap64_in _ (by omega)]
theorem and15' (n : Nat) (h : n < 18446744073709551616) : bits .and .u64 (n : Int) 15 = ((n % 16 : Nat) : Int) := by
  rw [← nat_mask4]; exact u64_and_nat n 15 h (by omega)
theorem nib_shift (p i : Nat) : p / 2 ^ (4 + 4 * i) % 16 = nib p i := by
  unfold nib
  rw [show 4 + 4 * i = 4 * (i + 1) by omega, Nat.pow_mul]
theorem ret_i64p {a b : Int} (h : a = b) : Ending.returned (.int .i64 a) = .returned (.int .i64 b) := by rw [h]

theorem at_in (p i : Nat) (w : World) (hp : p < 18446744073709551616) (hi : i < 15) :
    Calls Try.prog 47 #[.int .u64 p, .int .i64 i] w fun e w' => e = .returned (.int .i64 (nib p i)) ∧ w = w' := by
  have d1 : decide ((i : Int) < 0) = false := by simp
  have d2 : decide (15 ≤ (i : Int)) = false := by simp; omega
  have HE : Hid (wrap64 (bits BinOp.and IntKind.u64 ((p : Int) / 2 ^ (4 + 4 * i)) 15) = (nib p i : Int)) := by
    refine Lib.hid ?_
    have e : ((p : Int) / 2 ^ (4 + 4 * i)) = ((p / 2 ^ (4 + 4 * i) : Nat) : Int) := by simp
    rw [e, and15 _ (Nat.lt_of_le_of_lt (Nat.div_le_self _ _) hp), nib_shift]
  go_enter Try.func47, Try.ntmps47
  go_wp2
  go_ret
  exact ⟨ret_i64p (by rw [← HE.out]), rfl⟩
theorem at_out (p : Nat) (i : Int) (w : World) (hi : i < 0 ∨ 15 ≤ i) :
    Calls Try.prog 47 #[.int .u64 p, .int .i64 i] w fun e w' => e = .returned (.int .i64 (-1)) ∧ w = w' := by
  rcases hi with h | h
  all_goals
    go_enter Try.func47, Try.ntmps47
    go_wp2
    go_ret
    exact ⟨rfl, rfl⟩
theorem len_any (p : Nat) (w : World) (hp : p < 18446744073709551616) :
    Calls Try.prog 48 #[.int .u64 p] w fun e w' => e = .returned (.int .i64 (p % 16 : Nat)) ∧ w = w' := by
  have HE := Lib.hid (and15 p hp)
  go_enter Try.func48, Try.ntmps48
  go_wp2
  go_ret
  exact ⟨ret_i64p (by rw [← HE.out]), rfl⟩

/-! ### A word is made slot by slot -/
theorem wd_take_succ (c : Nat) (l : List Nat) (k : Nat) (hk : k < l.length) : wd c (l.take (k + 1)) = wd c (l.take k) + l.getD k 0 * 16 ^ (k + 1) := by
  have : ∀ (l : List Nat) (k : Nat), k < l.length → dig (l.take (k + 1)) = dig (l.take k) + l.getD k 0 * 16 ^ k := by
    intro l
    induction l with
    | nil => intro k hk; simp at hk
    | cons x r ih =>
      intro k hk
      cases k with
      | zero => simp [dig]
      | succ k =>
        rw [List.take_succ_cons, List.take_succ_cons, dig, dig, ih k (by simpa using hk), Nat.pow_succ]
        simp only [List.getD_cons_succ]
        rw [Nat.mul_add, Nat.mul_comm 16 (r.getD k 0 * 16 ^ k), Nat.mul_assoc]
        omega
  unfold wd
  rw [this l k hk, Nat.pow_succ, ← Nat.mul_assoc, Nat.mul_add]
  omega
theorem wd_take_lt (c : Nat) (l : List Nat) (k : Nat) (hc : c < 16) (h : ∀ x ∈ l, x < 16) (hk : k ≤ l.length) : wd c (l.take k) < 16 ^ (k + 1) := by
  have := dig_lt (l.take k) (fun x hx => h x (List.mem_of_mem_take hx))
  rw [List.length_take, Nat.min_eq_left hk] at this
  unfold wd
  rw [Nat.pow_succ]
  omega
theorem or_slot (c : Nat) (l : List Nat) (k : Nat) (hc : c < 16) (h : ∀ x ∈ l, x < 16) (hl : l.length = 15) (hk : k < 15) :
    bits .or .u64 (wd c (l.take k) : Int) (IntKind.u64.wrap ((l.getD k 0 : Int) * 2 ^ (4 + 4 * k))) = (wd c (l.take (k + 1)) : Int) := by
  have h1 := wd_take_lt c l k hc h (by omega)
  have h2 := wd_take_lt c l (k + 1) hc h (by omega)
  have h3 := wd_take_succ c l k (by omega)
  have hpow : (16 : Nat) ^ (k + 1 + 1) ≤ 16 ^ 16 := Nat.pow_le_pow_right (by omega) (by omega)
  have e16 : (16 : Nat) ^ 16 = 18446744073709551616 := by decide
  have e : (2 : Nat) ^ (4 + 4 * k) = 16 ^ (k + 1) := by rw [show 4 + 4 * k = 4 * (k + 1) by omega, Nat.pow_mul]
  have e' : ((l.getD k 0 : Int) * 2 ^ (4 + 4 * k)) = ((l.getD k 0 * 16 ^ (k + 1) : Nat) : Int) := by rw [← e]; simp
  have e2 : IntKind.u64.wrap (((l.getD k 0 * 16 ^ (k + 1) : Nat) : Int)) = ((l.getD k 0 * 16 ^ (k + 1) : Nat) : Int) := by rw [IntKind.wrap_u64]; omega
  have hmod : (l.getD k 0 * 16 ^ (k + 1)) % 2 ^ (4 + 4 * k) = 0 := by rw [e]; exact Nat.mul_mod_left _ _
  rw [e', e2, u64_or_nat _ _ (by omega) (by omega), Nat.or_comm, nat_join (4 + 4 * k) _ _ hmod (by rw [e]; exact h1), h3, Nat.add_comm]

theorem range_getD (k : Nat) (h : k < 15) : (List.range 15).getD k 0 = k := by
  rw [List.getD_eq_getElem?_getD, List.getElem?_range h]; rfl
theorem empty_any (w : World) :
    Calls Try.prog 57 #[] w fun e w' => e = .returned (.int .u64 17134975606245761280) ∧ w = w' := by
  obtain ⟨l, hl⟩ : ∃ l, l = List.range 15 := ⟨_, rfl⟩
  have HL := Lib.hid hl
  clear hl
  go_enter Try.func57, Try.ntmps57
  go_wp2
  go_loop [1, 3] (fun p i => ∃ k : Nat, k ≤ 15 ∧ i = .int .i64 k ∧ p = .int .u64 (wd 0 (l.take k))) (fun _ i => 15 - (intOf i).toNat)
  case atStart => exact ⟨0, by omega, rfl, rfl⟩
  case round =>
    obtain ⟨k, hk, rfl, rfl⟩ := hrel
    by_cases hlt : k < 15
    · have HO : Hid (bits .or .u64 (wd 0 (l.take k) : Int) (IntKind.u64.wrap ((k : Int) * 2 ^ (4 + 4 * k))) = (wd 0 (l.take (k + 1)) : Int)) := by
        have := or_slot 0 l k (by omega) (by rw [HL.out]; exact fun x hx => by have := List.mem_range.1 hx; omega) (by rw [HL.out]; simp) hlt
        rw [show l.getD k 0 = k by rw [HL.out]; exact range_getD k hlt] at this
        exact Lib.hid this
      go_wp2
      go_round
      case rel => exact ⟨k + 1, by omega, by go_num, by rw [HO.out]⟩
      case measure => simp [intOf]; omega
    · obtain rfl : k = 15 := by omega
      have HO : Hid (wd 0 (l.take 15) = 17134975606245761280) := Lib.hid (by rw [HL.out]; decide)
      go_wp2
      rw [HO.out]
      go_ret
      exact ⟨rfl, rfl⟩

theorem or_bit (s x : Nat) (hs : s < 65536) (hx : x < 16) : bits .or .i64 (s : Int) (wrap64 (2 ^ x)) = ((s ||| 2 ^ x : Nat) : Int) := by
  have hp : 2 ^ x < 2 ^ 16 := Nat.pow_lt_pow_right (by omega) hx
  have e : wrap64 (2 ^ x) = ((2 ^ x : Nat) : Int) := by
    have : (2 : Int) ^ x = ((2 ^ x : Nat) : Int) := by simp
    rw [this]
    generalize 2 ^ x = y at *
    exact IntWalk.wrap64_in _ (by omega)
  rw [e, i64_or_nat _ _ hs (by omega)]
set_option maxHeartbeats 400000 in
theorem right_any (p : Nat) (w : World) (hp : p < 18446744073709551616) :
    Calls Try.prog 46 #[.int .u64 p] w fun e w' => e = .returned (.bool (rt (slots p))) ∧ w = w' := by
  obtain ⟨l, hl⟩ : ∃ l, l = slots p := ⟨_, rfl⟩
  have hlen : l.length = 15 := by rw [hl, slots_length]
  have hlt : ∀ x ∈ l, x < 16 := by rw [hl]; exact slots_lt p
  have hat : ∀ k, k < 15 → l[k]? = some (nib p k) := fun k hk => by rw [hl, slots_get p k hk]
  rw [← hl]
  have HL := Lib.hid hl
  have HT := Lib.hid hlt
  have HA := Lib.hid hat
  have HN := Lib.hid hlen
  obtain ⟨c, hc⟩ : ∃ c, c = p % 16 := ⟨_, rfl⟩
  have hm : decide ((c : Int) ≤ 15) = true := by simp; omega
  have HC : Hid (∀ w, Calls Try.prog 48 #[.int .u64 p] w fun e w' => e = .returned (.int .i64 c) ∧ w = w') := Lib.hid fun w => by rw [hc]; exact len_any p w hp
  clear hl hlt hat hlen hc
  go_enter Try.func46, Try.ntmps46
  go_wp2
  go_loop [3, 5] (fun s i => ∃ k : Nat, k ≤ 15 ∧ i = .int .i64 k ∧ s = .int .i64 (orb (l.take k))) (fun _ i => 15 - (intOf i).toNat)
  case atStart => exact ⟨0, by omega, rfl, rfl⟩
  case round =>
    obtain ⟨k, hk, rfl, rfl⟩ := hrel
    by_cases hlt : k < 15
    · have hnb := nib_lt p k
      obtain ⟨x, hx⟩ : ∃ x, x = nib p k := ⟨_, rfl⟩
      have Hat : Hid (∀ w, Calls Try.prog 47 #[.int .u64 p, .int .i64 k] w fun e w' => e = .returned (.int .i64 x) ∧ w = w') := Lib.hid fun w => by rw [hx]; exact at_in p k w hp hlt
      have hx16 : x < 16 := by omega
      have HO : Hid (orb (l.take (k + 1)) = orb (l.take k) ||| 2 ^ x) := by
        refine Lib.hid ?_
        rw [List.take_add_one, HA.out k hlt, ← hx]
        exact orb_snoc _ _
      have hob := orb_lt (l.take k) (fun y hy => HT.out y (List.mem_of_mem_take hy))
      clear hx hnb
      go_wp2_with fail
      refine (Hat.out _).mono ?_
      rintro e w' ⟨rfl, rfl⟩
      go_wp2
      go_round
      case rel => exact ⟨k + 1, by omega, by go_num, by rw [or_bit _ _ hob hx16, HO.out]⟩
      case measure => simp [intOf]; omega
    · obtain rfl : k = 15 := by omega
      have HE : Hid (l.take 15 = l) := Lib.hid (List.take_of_length_le (by rw [HN.out]; omega))
      rw [HE.out]
      have hob := orb_lt l HT.out
      by_cases hr : orb l = 32767
      · have HR : Hid (rt l = true) := Lib.hid (rt_yes ((orb_all l HN.out).1 hr))
        have hq : ((orb l : Int) == 32767) = true := by rw [hr]; rfl
        clear hr
        go_wp2_with fail
        refine (HC.out _).mono ?_
        rintro e w' ⟨rfl, rfl⟩
        go_wp2
        go_ret
        exact ⟨by rw [HR.out]; rfl, rfl⟩
      · have HR : Hid (rt l = false) := Lib.hid (rt_no (fun h => hr ((orb_all l HN.out).2 h)))
        have hq : ((orb l : Int) == 32767) = false := by simp; omega
        clear hr
        go_wp2
        go_ret
        exact ⟨by rw [HR.out]; rfl, rfl⟩
end Go.Proofs.Ytgkjhlmfgaaddaa
end

section
/- The contract of perm.move: a number is taken out of its place, and put in at another one. -/
namespace Go.Proofs.Ytgkjhlmfgaaddaa
open Go.RowKit
set_option maxRecDepth 8000
set_option linter.unusedVariables false

def rowV (l : List Nat) : List Value := l.map fun (x : Nat) => Value.int .i64 (x : Int)
theorem rowV_length (l : List Nat) : (rowV l).length = l.length := by simp [rowV]
theorem rowV_get (l : List Nat) (j : Nat) (h : j < l.length) : (rowV l)[j]? = some (.int .i64 (l.getD j 0 : Nat)) := by
  rw [rowV, List.getElem?_map, List.getElem?_eq_getElem h, getD_eq h]; rfl
theorem rowV_set (l : List Nat) (k x : Nat) : (rowV l).set k (.int .i64 (x : Int)) = rowV (l.set k x) := by
  simp [rowV, List.map_set]
theorem rowV_one (l : List Nat) : ∀ v ∈ rowV l, v.oneCell' = true := by
  intro v hv
  obtain ⟨x, _, rfl⟩ := List.mem_map.1 hv
  rfl
/-- The first k slots of a word, zeros behind. -/
def part (l : List Nat) (k : Nat) : List Nat := l.take k ++ List.replicate (15 - k) 0
theorem part_length (l : List Nat) (k : Nat) (hl : l.length = 15) (hk : k ≤ 15) : (part l k).length = 15 := by simp [part]; omega
theorem part_set (l : List Nat) (k : Nat) (hl : l.length = 15) (hk : k < 15) : (part l k).set k (l.getD k 0) = part l (k + 1) := by
  unfold part
  rw [List.set_append_right _ _ (by simp; omega), show 15 - k = (15 - (k + 1)) + 1 by omega, List.replicate_succ]
  rw [show k - (l.take k).length = 0 by simp; omega, List.set_cons_zero, List.take_add_one, getD_eq (by omega), List.getElem?_eq_getElem (by omega : k < l.length)]
  rw [List.append_assoc]
  rfl
theorem part_full (l : List Nat) (hl : l.length = 15) : part l 15 = l := by
  unfold part; rw [List.take_of_length_le (by omega)]; simp

theorem run_int_size (w : World) : (sizeOf 3).run Try.prog w = .ok 1 w := by kernel_rfl
theorem arr_is : Try.prog.underlying 104 = some (.array (Try.prog.arrayLen 104) (Try.prog.elem 104)) := by kernel_rfl
theorem arr_len : Try.prog.arrayLen 104 = 15 := by kernel_rfl
theorem arr_elem : Try.prog.elem 104 = 3 := by kernel_rfl
theorem add_at (g k : Nat) : (⟨g, 0, none⟩ : Addr).add k = ⟨g, k, none⟩ := by unfold Addr.add; split <;> simp_all
/-- 'l[i:]' of the array. -/
theorem run_cut_lo (g k : Nat) (i : Int) (hi : i = k) (hk : k < 15) (w : World) :
    Sem.run Try.prog (Instr.sliceAt 104 (.pointer (some ⟨g, 0, none⟩)) (some (.int .i64 i)) none none) w = .ok (.slice (some ⟨g, k, none⟩) (15 - k) (15 - k)) w := by
  subst hi
  rw [run_sliceAt_array_l w 104 ⟨g, 0, none⟩ arr_is .i64 (k : Int) (by omega) (by rw [arr_len]; omega), arr_elem, run_int_size, arr_len]
  unfold slicedAt
  simp only [Result.andThen, Int.toNat_natCast, Nat.mul_one, add_at]
  rw [if_neg (by omega)]
theorem run_cut_end (g : Nat) (i : Int) (hi : i = 15) (w : World) :
    Sem.run Try.prog (Instr.sliceAt 104 (.pointer (some ⟨g, 0, none⟩)) (some (.int .i64 i)) none none) w = .ok (.slice (some ⟨g, 0, none⟩) 0 0) w := by
  subst hi
  rw [run_sliceAt_array_l w 104 ⟨g, 0, none⟩ arr_is .i64 15 (by omega) (by rw [arr_len]; omega), arr_elem, run_int_size, arr_len]
  rfl
/-- 'l[i:14]'. -/
theorem run_cut_14 (g k : Nat) (i : Int) (hi : i = k) (hk : k ≤ 14) (w : World) :
    Sem.run Try.prog (Instr.sliceAt 104 (.pointer (some ⟨g, 0, none⟩)) (some (.int .i64 i)) (some (.int .i64 14)) none) w = .ok (.slice (some ⟨g, k, none⟩) (14 - k) (15 - k)) w := by
  subst hi
  rw [run_sliceAt_array_lh w 104 ⟨g, 0, none⟩ arr_is .i64 .i64 (k : Int) 14 (by omega) (by omega) (by rw [arr_len]; omega), arr_elem, run_int_size, arr_len]
  unfold slicedAt
  simp only [Result.andThen, Int.toNat_natCast, Nat.mul_one, add_at]
  rw [if_neg (by omega)]
  rfl

theorem row_src {w : World} {g : Nat} {l : List Nat} {t : TypeId} {fr : Nat × Nat} (h : w.heap[g]? = some (.cells (rowV l).toArray t fr)) (k : Nat) (hk : k ≤ l.length) :
    ∀ j v, (rowV (l.drop k))[j]? = some v → w.cell? ((⟨g, k, none⟩ : Addr).add j) = some v := by
  intro j v hv
  have hadd : (⟨g, k, none⟩ : Addr).add j = ⟨g, k + j, none⟩ := by unfold Addr.add; split <;> simp_all
  rw [hadd, cell_of_row w g _ _ _ _ h]
  rw [rowV, List.map_drop, List.getElem?_drop] at hv
  simpa [rowV] using hv

theorem run_int_agg (w : World) : (isAgg 3).run Try.prog w = .ok false w := by kernel_rfl
def part_ := Go.part
theorem idx_at (M : List Nat) (hM : M.length = 15) (k : Nat) (hk : k < 15) (w : World) :
    (Instr.index 104 (.agg (rowV M).toArray) (.int .i64 (k : Int))).run Try.prog w = .ok (.int .i64 (M.getD k 0 : Nat)) w := by
  have hg := rowV_get M k (by omega)
  have h1 : (part_ 3 (rowV M).toArray k).run Try.prog w = .ok (.int .i64 (M.getD k 0 : Nat)) w := by
    unfold part_ Go.part
    have e : (rowV M).toArray[k]? = some (.int .i64 (M.getD k 0 : Nat)) := by simpa using hg
    simp only [Sem.run_bind, run_int_agg, Result.andThen, Bool.false_eq_true, if_false, e, Sem.run_pure]
  simp [Instr.index, asIntOf, run_underlying Try.underlying104, Result.andThen, hk]
  exact h1
/-- What the two copies leave. -/
theorem splice1 (l : List Nat) (a : Nat) (hl : l.length = 15) (ha : a < 15) : splice (rowV l) a (rowV (l.drop (a + 1))) = rowV (ers l a ++ l.drop 14) := by
  unfold splice ers rowV
  rw [List.length_map, List.length_drop, show a + (l.length - (a + 1)) = 14 by omega]
  simp
theorem splice2 (E : List Nat) (b : Nat) (hE : E.length = 15) (hb : b < 15) :
    splice (rowV E) (b + 1) (rowV ((E.drop b).take (14 - b))) = rowV (E.take (b + 1) ++ (E.drop b).take (14 - b)) := by
  unfold splice rowV
  rw [List.length_map, List.length_take, List.length_drop]
  have hd : (E.map fun (x : Nat) => Value.int .i64 (x : Int)).drop (b + 1 + min (14 - b) (E.length - b)) = [] := List.drop_of_length_le (by rw [List.length_map]; omega)
  rw [hd]
  simp
theorem splice3' (E : List Nat) (b x : Nat) (hE : E.length = 15) (hb : b < 15) : (E.take (b + 1) ++ (E.drop b).take (14 - b)).set b x = ins (E.take 14) b x := by
  unfold ins
  rw [List.take_take, Nat.min_eq_left (by omega : b ≤ 14), List.take_add_one, List.append_assoc, List.set_append_right _ _ (by simp; omega), List.drop_take]
  rw [show b - (E.take b).length = 0 by simp; omega, List.getElem?_eq_getElem (by omega : b < E.length)]
  rfl
theorem row_src2 {w : World} {g : Nat} {l : List Nat} {t : TypeId} {fr : Nat × Nat} (h : w.heap[g]? = some (.cells (rowV l).toArray t fr)) (k n : Nat) (hk : k ≤ l.length) :
    ∀ j v, (rowV ((l.drop k).take n))[j]? = some v → w.cell? ((⟨g, k, none⟩ : Addr).add j) = some v := by
  intro j v hv
  refine row_src h k hk j v ?_
  rw [rowV, List.map_take, List.getElem?_take] at hv
  split at hv
  · exact hv
  · cases hv

set_option maxHeartbeats 1000000 in
theorem move_any (p a b : Nat) (w : World) (hp : p < 18446744073709551616) (ha : a < 15) (hb : b < 15) :
    Calls Try.prog 61 #[.int .u64 p, .int .i64 a, .int .i64 b] w fun e w' => e = .returned (.int .u64 (wd (p % 16) (mv (slots p) a b))) ∧ Below w.heap.size w w' := by
  obtain ⟨l, hl⟩ : ∃ l, l = slots p := ⟨_, rfl⟩
  have hlen : l.length = 15 := by rw [hl, slots_length]
  have hlt : ∀ x ∈ l, x < 16 := by rw [hl]; exact slots_lt p
  have hat : ∀ k, k < 15 → nib p k = l.getD k 0 := fun k hk => by rw [hl, List.getD_eq_getElem?_getD, slots_get p k hk]; rfl
  rw [← hl]
  have HA := Lib.hid hat
  have HT := Lib.hid hlt
  have HN := Lib.hid hlen
  have h0 : (rowV (part l 0)).toArray = #[Value.int .i64 0, .int .i64 0, .int .i64 0, .int .i64 0, .int .i64 0, .int .i64 0, .int .i64 0, .int .i64 0, .int .i64 0, .int .i64 0, .int .i64 0, .int .i64 0, .int .i64 0, .int .i64 0, .int .i64 0] := by
    simp [rowV, part, List.replicate]
  have H0 := Lib.hid h0
  have HML := Lib.hid (show (mv l a b).length = 15 by rw [mv_length (by rw [hlen]; exact ha) (by rw [hlen]; exact hb), hlen])
  have HMT := Lib.hid (mv_below (b := b) (by rw [hlen]; exact ha : a < l.length) hlt)
  obtain ⟨c, hc⟩ : ∃ c, c = p % 16 := ⟨_, rfl⟩
  have hc16 : c < 16 := by omega
  have H15 := Lib.hid (show bits .and .u64 (p : Int) 15 = (c : Int) by rw [hc]; exact and15' p hp)
  rw [← hc]
  clear hc
  have da : decide ((a : Int) < 15) = true := by simp; omega
  have db : decide ((b : Int) < 15) = true := by simp; omega
  clear hl hlen hlt hat h0
  go_enter Try.func61, Try.ntmps61
  go_wp2
  go_loopw [8, 13] (fun _ i wr => ∃ k : Nat, k ≤ 15 ∧ i = .int .i64 k ∧ wr = w.alloc (.cells (rowV (part l k)).toArray 104)) (fun _ i _ => 15 - (intOf i).toNat)
  case atStart => exact ⟨0, by omega, rfl, by rw [H0.out]⟩
  case round =>
    obtain ⟨k, hk, rfl, rfl⟩ := hrel
    by_cases hlt : k < 15
    · obtain ⟨x, hx⟩ : ∃ x, x = nib p k := ⟨_, rfl⟩
      have Hat : Hid (∀ w, Calls Try.prog 47 #[.int .u64 p, .int .i64 k] w fun e w' => e = .returned (.int .i64 x) ∧ w = w') := Lib.hid fun w => by rw [hx]; exact at_in p k w hp hlt
      have HS : Hid ((rowV (part l k)).set k (.int .i64 (x : Int)) = rowV (part l (k + 1))) := by
        refine Lib.hid ?_
        rw [rowV_set, hx, HA.out k hlt, part_set l k HN.out hlt]
      have hv : (w.alloc (.cells (rowV (part l k)).toArray 104)).cell? ⟨w.heap.size, k, none⟩ = some (.int .i64 ((part l k).getD k 0 : Nat)) := by
        rw [World.cell?_alloc_at _ _ _ _ rfl]
        have := rowV_get (part l k) k (by rw [part_length l k HN.out (by omega)]; exact hlt)
        simpa using this
      clear hx
      go_wp2_with fail
      refine (Hat.out _).mono ?_
      rintro e w' ⟨rfl, rfl⟩
      go_wp2
      go_roundw
      case rel => exact ⟨k + 1, by omega, by go_num, by rw [HS.out]⟩
      case measure => simp [intOf]; omega
    · obtain rfl : k = 15 := by omega
      have HF : Hid (part l 15 = l) := Lib.hid (part_full l HN.out)
      rw [HF.out]
      obtain ⟨w1, hw1⟩ : ∃ w1, w1 = w.alloc (.cells (rowV l).toArray 104) := ⟨_, rfl⟩
      have hb1 : Below w.heap.size w w1 := by rw [hw1]; exact (Below.refl _ _).alloc (Nat.le_refl _) _
      have hg1 : w1.heap[w.heap.size]? = some (.cells (rowV l).toArray 104 (0, 0)) := by rw [hw1]; show (w.heap.push _)[_]? = _; simp
      rw [← hw1]
      have HG1 := Lib.hid hg1
      clear hw1 hg1
      obtain ⟨g, hg⟩ : ∃ g, g = w.heap.size := ⟨_, rfl⟩
      rw [← hg] at HG1 hb1 ⊢
      have HGW := Lib.hid hg
      clear hg
      obtain ⟨x, hxa⟩ : ∃ x, x = l.getD a 0 := ⟨_, rfl⟩
      have hca : w1.cell? ⟨g, a, none⟩ = some (.int .i64 (x : Nat)) := by
        rw [hxa]
        rw [cell_of_row w1 g a _ _ _ HG1.out]
        have := rowV_get l a (by rw [HN.out]; exact ha)
        simpa using this
      have hx16 : x < 16 := by
        rw [hxa, getD_eq (by rw [HN.out]; exact ha)]
        exact HT.out _ (List.getElem_mem _)
      have HX := Lib.hid (show x = l.getD a 0 from hxa)
      clear hxa
      go_wp2
      rcases (show a < 14 ∨ 14 ≤ a from by omega) with ha14 | ha14
      · have e1 : IntKind.i64.wrap ((a : Int) + 1) = (a : Int) + 1 := IntWalk.i64_in _ (by omega)
        have hs1 := run_cut_lo g a (a : Int) rfl ha
        have hs2 := run_cut_lo g (a + 1) ((a : Int) + 1) (by omega) (by omega)
        have HSrc := Lib.hid (row_src HG1.out (a + 1) (by rw [HN.out]; omega))
        have HM := Lib.hid (show (rowV (l.drop (a + 1))).length = Nat.min (15 - (a + 1)) (15 - a) by rw [rowV_length, List.length_drop, HN.out]; exact (Nat.min_eq_left (by omega)).symm)
        have HFit := Lib.hid (show a + (rowV (l.drop (a + 1))).length ≤ (rowV l).length by rw [rowV_length, rowV_length, List.length_drop, HN.out]; omega)
        go_region_law (refine step_copy_splice rfl (.tmp 26) (.tmp 29) 87 87 rfl 3 Try.underlying87 (by kernel_rfl) (some ⟨g, a, none⟩) (some ⟨g, a + 1, none⟩) (15 - a) (15 - a) (15 - (a + 1)) (15 - (a + 1)) (by simp [Act.eval, Act.put]) (by simp [Act.eval, Act.put]) g a (rowV l) 104 HG1.out (rowV (l.drop (a + 1))) HM.out (fun _ => ⟨rfl, _, rfl, HSrc.out⟩) HFit.out (rowV_one _) g w hb1.drew (Nat.le_refl _) ?_; intro w2 HG2 hb2)
        have HE1 := Lib.hid (splice1 l a HN.out ha)
        rw [HE1.out] at HG2
        have HEL := Lib.hid (show (ers l a ++ l.drop 14).length = 15 by rw [List.length_append, ers_length (by rw [HN.out]; exact ha), List.length_drop, HN.out])
        obtain ⟨E, hE⟩ : ∃ E, E = ers l a ++ l.drop 14 := ⟨_, rfl⟩
        have HET : Hid (E.take 14 = ers l a) := Lib.hid (by rw [hE, List.take_left' (by rw [ers_length (by rw [HN.out]; exact ha), HN.out])])
        rw [← hE] at HG2 HEL
        clear hE
        obtain ⟨HV, hHV⟩ : ∃ HV, HV = E.take (b + 1) ++ (E.drop b).take (14 - b) := ⟨_, rfl⟩
        have HSPa := Lib.hid (show splice (rowV E) (b + 1) (rowV ((E.drop b).take (14 - b))) = rowV HV by rw [hHV]; exact splice2 E b HEL.out hb)
        have HSPb := Lib.hid (show HV.set b x = mv l a b by rw [hHV, splice3' E b x HEL.out hb, HET.out, HX.out]; rfl)
        have HVL := Lib.hid (show HV.length = 15 by rw [hHV, List.length_append, List.length_take, List.length_take, List.length_drop, HEL.out]; omega)
        have e2 : IntKind.i64.wrap ((b : Int) + 1) = (b : Int) + 1 := IntWalk.i64_in _ (by omega)
        have hc2 := run_cut_14 g b (b : Int) rfl (by omega)
        have HSrc2 := Lib.hid (row_src2 HG2.out b (14 - b) (by rw [HEL.out]; omega))
        have HFit2 := Lib.hid (show b + 1 + (rowV ((E.drop b).take (14 - b))).length ≤ (rowV E).length by rw [rowV_length, rowV_length, List.length_take, List.length_drop, HEL.out]; omega)
        clear hHV
        go_wp2
        rcases (show b < 14 ∨ 14 ≤ b from by omega) with hb14 | hb14
        · have hc1 := run_cut_lo g (b + 1) ((b : Int) + 1) (by omega) (by omega)
          have HM2 := Lib.hid (show (rowV ((E.drop b).take (14 - b))).length = Nat.min (14 - b) (14 - b) by rw [rowV_length, List.length_take, List.length_drop, HEL.out]; exact (by omega : min (14 - b) (15 - b) = 14 - b).trans (Nat.min_self _).symm)
          go_region_law (refine step_copy_splice rfl (.tmp 33) (.tmp 35) 87 87 rfl 3 Try.underlying87 (by kernel_rfl) (some ⟨g, b + 1, none⟩) (some ⟨g, b, none⟩) (14 - b) (14 - b) (14 - b) (15 - b) (by simp [Act.eval, Act.put]) (by simp [Act.eval, Act.put]) g (b + 1) (rowV E) 104 HG2.out (rowV ((E.drop b).take (14 - b))) HM2.out (fun _ => ⟨rfl, _, rfl, HSrc2.out⟩) HFit2.out (rowV_one _) g w hb2.drew (Nat.le_refl _) ?_; intro w3 HG3 hb3)
          rw [HSPa.out] at HG3
          have hcb : w3.cell? ⟨g, b, none⟩ = some (.int .i64 (HV.getD b 0 : Nat)) := by
            rw [cell_of_row w3 g b _ _ _ HG3.out]
            have := rowV_get HV b (by rw [HVL.out]; exact hb)
            simpa using this
          have hfb : w3.frozen? ⟨g, b, none⟩ = false := frozen_of_row w3 g b _ _ HG3.out
          have HG4 : Hid ((w3.setCell ⟨g, b, none⟩ (.int .i64 (x : Int))).heap[g]? = some (.cells (rowV (mv l a b)).toArray 104 (0, 0))) := by
            refine Lib.hid ?_
            rw [heap_setCell_same w3 g b _ _ _ HG3.out]
            have := HSPb.out
            rw [← this, ← rowV_set]
            simp
          have hb4 := hb3.setCell (p := ⟨g, b, none⟩) (Nat.le_refl _) (.int .i64 (x : Int))
          have hsz : (Try.prog.info? 104).map (·.size) = some (rowV (mv l a b)).toArray.size := by rw [show (rowV (mv l a b)).toArray.size = 15 by rw [List.size_toArray, rowV_length, mv_length (by rw [HN.out]; exact ha) (by rw [HN.out]; exact hb), HN.out]]; kernel_rfl
          have HSZ := Lib.hid hsz
          clear hsz
          go_wp2_with (refine wpList_load_row rfl 104 _ rfl g rfl 104 _ (0, 0) _ HG4.out Try.underlying104 rfl HSZ.out ?_)
          go_loop [10, 11, 12, 43] (fun o _ _ i => ∃ k : Nat, k ≤ 15 ∧ i = .int .i64 k ∧ o = .int .u64 (wd c ((mv l a b).take k))) (fun _ _ _ i => 15 - (intOf i).toNat)
          case atStart => exact ⟨0, by omega, rfl, by rw [H15.out]; rfl⟩
          case round =>
            obtain ⟨k, hk, rfl, rfl⟩ := hrel
            by_cases hlt : k < 15
            · obtain ⟨y, hy⟩ : ∃ y, y = (mv l a b).getD k 0 := ⟨_, rfl⟩
              have hidx := idx_at (mv l a b) HML.out k hlt
              rw [← hy] at hidx
              have hy16 : y < 16 := by
                rw [hy, getD_eq (by rw [HML.out]; exact hlt)]
                exact HMT.out _ (List.getElem_mem _)
              have HO : Hid (bits .or .u64 (wd c ((mv l a b).take k) : Int) (IntKind.u64.wrap ((y : Int) * 2 ^ (4 + 4 * k))) = (wd c ((mv l a b).take (k + 1)) : Int)) := by
                rw [hy]; exact Lib.hid (or_slot c (mv l a b) k hc16 HMT.out HML.out hlt)
              clear hy
              go_wp2
              go_round
              case rel => exact ⟨k + 1, by omega, by go_num, by rw [HO.out]⟩
              case measure => simp [intOf]; omega
            · obtain rfl : k = 15 := by omega
              have HF2 : Hid ((mv l a b).take 15 = mv l a b) := Lib.hid (List.take_of_length_le (by rw [HML.out]; omega))
              rw [HF2.out]
              go_wp2
              go_ret
              exact ⟨rfl, by have hh := HGW.out; rw [← hh]; exact hb4⟩
        · have hc1 := run_cut_end g ((b : Int) + 1) (by omega)
          have HM2 := Lib.hid (show (rowV ((E.drop b).take (14 - b))).length = Nat.min 0 0 by rw [rowV_length, List.length_take, List.length_drop, HEL.out]; exact (by omega : min (14 - b) (15 - b) = 0))
          have HNo := Lib.hid (show ¬ 0 < (rowV ((E.drop b).take (14 - b))).length by rw [HM2.out]; exact fun h => by rw [show Nat.min 0 0 = 0 from rfl] at h; omega)
          go_region_law (refine step_copy_splice rfl (.tmp 33) (.tmp 35) 87 87 rfl 3 Try.underlying87 (by kernel_rfl) (some ⟨g, 0, none⟩) (some ⟨g, b, none⟩) 0 0 0 (15 - b) (by simp [Act.eval, Act.put]) (by simp [Act.eval, Act.put]) g (b + 1) (rowV E) 104 HG2.out (rowV ((E.drop b).take (14 - b))) HM2.out (fun h => absurd h HNo.out) HFit2.out (rowV_one _) g w hb2.drew (Nat.le_refl _) ?_; intro w3 HG3 hb3)
          rw [HSPa.out] at HG3
          have hcb : w3.cell? ⟨g, b, none⟩ = some (.int .i64 (HV.getD b 0 : Nat)) := by
            rw [cell_of_row w3 g b _ _ _ HG3.out]
            have := rowV_get HV b (by rw [HVL.out]; exact hb)
            simpa using this
          have hfb : w3.frozen? ⟨g, b, none⟩ = false := frozen_of_row w3 g b _ _ HG3.out
          have HG4 : Hid ((w3.setCell ⟨g, b, none⟩ (.int .i64 (x : Int))).heap[g]? = some (.cells (rowV (mv l a b)).toArray 104 (0, 0))) := by
            refine Lib.hid ?_
            rw [heap_setCell_same w3 g b _ _ _ HG3.out]
            have := HSPb.out
            rw [← this, ← rowV_set]
            simp
          have hb4 := hb3.setCell (p := ⟨g, b, none⟩) (Nat.le_refl _) (.int .i64 (x : Int))
          have hsz : (Try.prog.info? 104).map (·.size) = some (rowV (mv l a b)).toArray.size := by rw [show (rowV (mv l a b)).toArray.size = 15 by rw [List.size_toArray, rowV_length, mv_length (by rw [HN.out]; exact ha) (by rw [HN.out]; exact hb), HN.out]]; kernel_rfl
          have HSZ := Lib.hid hsz
          clear hsz
          go_wp2_with (refine wpList_load_row rfl 104 _ rfl g rfl 104 _ (0, 0) _ HG4.out Try.underlying104 rfl HSZ.out ?_)
          go_loop [10, 11, 12, 43] (fun o _ _ i => ∃ k : Nat, k ≤ 15 ∧ i = .int .i64 k ∧ o = .int .u64 (wd c ((mv l a b).take k))) (fun _ _ _ i => 15 - (intOf i).toNat)
          case atStart => exact ⟨0, by omega, rfl, by rw [H15.out]; rfl⟩
          case round =>
            obtain ⟨k, hk, rfl, rfl⟩ := hrel
            by_cases hlt : k < 15
            · obtain ⟨y, hy⟩ : ∃ y, y = (mv l a b).getD k 0 := ⟨_, rfl⟩
              have hidx := idx_at (mv l a b) HML.out k hlt
              rw [← hy] at hidx
              have hy16 : y < 16 := by
                rw [hy, getD_eq (by rw [HML.out]; exact hlt)]
                exact HMT.out _ (List.getElem_mem _)
              have HO : Hid (bits .or .u64 (wd c ((mv l a b).take k) : Int) (IntKind.u64.wrap ((y : Int) * 2 ^ (4 + 4 * k))) = (wd c ((mv l a b).take (k + 1)) : Int)) := by
                rw [hy]; exact Lib.hid (or_slot c (mv l a b) k hc16 HMT.out HML.out hlt)
              clear hy
              go_wp2
              go_round
              case rel => exact ⟨k + 1, by omega, by go_num, by rw [HO.out]⟩
              case measure => simp [intOf]; omega
            · obtain rfl : k = 15 := by omega
              have HF2 : Hid ((mv l a b).take 15 = mv l a b) := Lib.hid (List.take_of_length_le (by rw [HML.out]; omega))
              rw [HF2.out]
              go_wp2
              go_ret
              exact ⟨rfl, by have hh := HGW.out; rw [← hh]; exact hb4⟩
      · have e1 : IntKind.i64.wrap ((a : Int) + 1) = (a : Int) + 1 := IntWalk.i64_in _ (by omega)
        have hs1 := run_cut_lo g a (a : Int) rfl ha
        have hs2 := run_cut_end g ((a : Int) + 1) (by omega)
        have HM := Lib.hid (show (rowV (l.drop (a + 1))).length = Nat.min 0 (15 - a) by rw [rowV_length, List.length_drop, HN.out]; exact (by omega : 15 - (a + 1) = 0).trans (Nat.zero_min _).symm)
        have HFit := Lib.hid (show a + (rowV (l.drop (a + 1))).length ≤ (rowV l).length by rw [rowV_length, rowV_length, List.length_drop, HN.out]; omega)
        have HNo := Lib.hid (show ¬ 0 < (rowV (l.drop (a + 1))).length by rw [HM.out]; exact fun h => by rw [show Nat.min 0 (15 - a) = 0 from Nat.zero_min _] at h; omega)
        go_region_law (refine step_copy_splice rfl (.tmp 26) (.tmp 29) 87 87 rfl 3 Try.underlying87 (by kernel_rfl) (some ⟨g, a, none⟩) (some ⟨g, 0, none⟩) (15 - a) (15 - a) 0 0 (by simp [Act.eval, Act.put]) (by simp [Act.eval, Act.put]) g a (rowV l) 104 HG1.out (rowV (l.drop (a + 1))) HM.out (fun h => absurd h HNo.out) HFit.out (rowV_one _) g w hb1.drew (Nat.le_refl _) ?_; intro w2 HG2 hb2)
        have HE1 := Lib.hid (splice1 l a HN.out ha)
        rw [HE1.out] at HG2
        have HEL := Lib.hid (show (ers l a ++ l.drop 14).length = 15 by rw [List.length_append, ers_length (by rw [HN.out]; exact ha), List.length_drop, HN.out])
        obtain ⟨E, hE⟩ : ∃ E, E = ers l a ++ l.drop 14 := ⟨_, rfl⟩
        have HET : Hid (E.take 14 = ers l a) := Lib.hid (by rw [hE, List.take_left' (by rw [ers_length (by rw [HN.out]; exact ha), HN.out])])
        rw [← hE] at HG2 HEL
        clear hE
        obtain ⟨HV, hHV⟩ : ∃ HV, HV = E.take (b + 1) ++ (E.drop b).take (14 - b) := ⟨_, rfl⟩
        have HSPa := Lib.hid (show splice (rowV E) (b + 1) (rowV ((E.drop b).take (14 - b))) = rowV HV by rw [hHV]; exact splice2 E b HEL.out hb)
        have HSPb := Lib.hid (show HV.set b x = mv l a b by rw [hHV, splice3' E b x HEL.out hb, HET.out, HX.out]; rfl)
        have HVL := Lib.hid (show HV.length = 15 by rw [hHV, List.length_append, List.length_take, List.length_take, List.length_drop, HEL.out]; omega)
        have e2 : IntKind.i64.wrap ((b : Int) + 1) = (b : Int) + 1 := IntWalk.i64_in _ (by omega)
        have hc2 := run_cut_14 g b (b : Int) rfl (by omega)
        have HSrc2 := Lib.hid (row_src2 HG2.out b (14 - b) (by rw [HEL.out]; omega))
        have HFit2 := Lib.hid (show b + 1 + (rowV ((E.drop b).take (14 - b))).length ≤ (rowV E).length by rw [rowV_length, rowV_length, List.length_take, List.length_drop, HEL.out]; omega)
        clear hHV
        go_wp2
        rcases (show b < 14 ∨ 14 ≤ b from by omega) with hb14 | hb14
        · have hc1 := run_cut_lo g (b + 1) ((b : Int) + 1) (by omega) (by omega)
          have HM2 := Lib.hid (show (rowV ((E.drop b).take (14 - b))).length = Nat.min (14 - b) (14 - b) by rw [rowV_length, List.length_take, List.length_drop, HEL.out]; exact (by omega : min (14 - b) (15 - b) = 14 - b).trans (Nat.min_self _).symm)
          go_region_law (refine step_copy_splice rfl (.tmp 33) (.tmp 35) 87 87 rfl 3 Try.underlying87 (by kernel_rfl) (some ⟨g, b + 1, none⟩) (some ⟨g, b, none⟩) (14 - b) (14 - b) (14 - b) (15 - b) (by simp [Act.eval, Act.put]) (by simp [Act.eval, Act.put]) g (b + 1) (rowV E) 104 HG2.out (rowV ((E.drop b).take (14 - b))) HM2.out (fun _ => ⟨rfl, _, rfl, HSrc2.out⟩) HFit2.out (rowV_one _) g w hb2.drew (Nat.le_refl _) ?_; intro w3 HG3 hb3)
          rw [HSPa.out] at HG3
          have hcb : w3.cell? ⟨g, b, none⟩ = some (.int .i64 (HV.getD b 0 : Nat)) := by
            rw [cell_of_row w3 g b _ _ _ HG3.out]
            have := rowV_get HV b (by rw [HVL.out]; exact hb)
            simpa using this
          have hfb : w3.frozen? ⟨g, b, none⟩ = false := frozen_of_row w3 g b _ _ HG3.out
          have HG4 : Hid ((w3.setCell ⟨g, b, none⟩ (.int .i64 (x : Int))).heap[g]? = some (.cells (rowV (mv l a b)).toArray 104 (0, 0))) := by
            refine Lib.hid ?_
            rw [heap_setCell_same w3 g b _ _ _ HG3.out]
            have := HSPb.out
            rw [← this, ← rowV_set]
            simp
          have hb4 := hb3.setCell (p := ⟨g, b, none⟩) (Nat.le_refl _) (.int .i64 (x : Int))
          have hsz : (Try.prog.info? 104).map (·.size) = some (rowV (mv l a b)).toArray.size := by rw [show (rowV (mv l a b)).toArray.size = 15 by rw [List.size_toArray, rowV_length, mv_length (by rw [HN.out]; exact ha) (by rw [HN.out]; exact hb), HN.out]]; kernel_rfl
          have HSZ := Lib.hid hsz
          clear hsz
          go_wp2_with (refine wpList_load_row rfl 104 _ rfl g rfl 104 _ (0, 0) _ HG4.out Try.underlying104 rfl HSZ.out ?_)
          go_loop [10, 11, 12, 43] (fun o _ _ i => ∃ k : Nat, k ≤ 15 ∧ i = .int .i64 k ∧ o = .int .u64 (wd c ((mv l a b).take k))) (fun _ _ _ i => 15 - (intOf i).toNat)
          case atStart => exact ⟨0, by omega, rfl, by rw [H15.out]; rfl⟩
          case round =>
            obtain ⟨k, hk, rfl, rfl⟩ := hrel
            by_cases hlt : k < 15
            · obtain ⟨y, hy⟩ : ∃ y, y = (mv l a b).getD k 0 := ⟨_, rfl⟩
              have hidx := idx_at (mv l a b) HML.out k hlt
              rw [← hy] at hidx
              have hy16 : y < 16 := by
                rw [hy, getD_eq (by rw [HML.out]; exact hlt)]
                exact HMT.out _ (List.getElem_mem _)
              have HO : Hid (bits .or .u64 (wd c ((mv l a b).take k) : Int) (IntKind.u64.wrap ((y : Int) * 2 ^ (4 + 4 * k))) = (wd c ((mv l a b).take (k + 1)) : Int)) := by
                rw [hy]; exact Lib.hid (or_slot c (mv l a b) k hc16 HMT.out HML.out hlt)
              clear hy
              go_wp2
              go_round
              case rel => exact ⟨k + 1, by omega, by go_num, by rw [HO.out]⟩
              case measure => simp [intOf]; omega
            · obtain rfl : k = 15 := by omega
              have HF2 : Hid ((mv l a b).take 15 = mv l a b) := Lib.hid (List.take_of_length_le (by rw [HML.out]; omega))
              rw [HF2.out]
              go_wp2
              go_ret
              exact ⟨rfl, by have hh := HGW.out; rw [← hh]; exact hb4⟩
        · have hc1 := run_cut_end g ((b : Int) + 1) (by omega)
          have HM2 := Lib.hid (show (rowV ((E.drop b).take (14 - b))).length = Nat.min 0 0 by rw [rowV_length, List.length_take, List.length_drop, HEL.out]; exact (by omega : min (14 - b) (15 - b) = 0))
          have HNo := Lib.hid (show ¬ 0 < (rowV ((E.drop b).take (14 - b))).length by rw [HM2.out]; exact fun h => by rw [show Nat.min 0 0 = 0 from rfl] at h; omega)
          go_region_law (refine step_copy_splice rfl (.tmp 33) (.tmp 35) 87 87 rfl 3 Try.underlying87 (by kernel_rfl) (some ⟨g, 0, none⟩) (some ⟨g, b, none⟩) 0 0 0 (15 - b) (by simp [Act.eval, Act.put]) (by simp [Act.eval, Act.put]) g (b + 1) (rowV E) 104 HG2.out (rowV ((E.drop b).take (14 - b))) HM2.out (fun h => absurd h HNo.out) HFit2.out (rowV_one _) g w hb2.drew (Nat.le_refl _) ?_; intro w3 HG3 hb3)
          rw [HSPa.out] at HG3
          have hcb : w3.cell? ⟨g, b, none⟩ = some (.int .i64 (HV.getD b 0 : Nat)) := by
            rw [cell_of_row w3 g b _ _ _ HG3.out]
            have := rowV_get HV b (by rw [HVL.out]; exact hb)
            simpa using this
          have hfb : w3.frozen? ⟨g, b, none⟩ = false := frozen_of_row w3 g b _ _ HG3.out
          have HG4 : Hid ((w3.setCell ⟨g, b, none⟩ (.int .i64 (x : Int))).heap[g]? = some (.cells (rowV (mv l a b)).toArray 104 (0, 0))) := by
            refine Lib.hid ?_
            rw [heap_setCell_same w3 g b _ _ _ HG3.out]
            have := HSPb.out
            rw [← this, ← rowV_set]
            simp
          have hb4 := hb3.setCell (p := ⟨g, b, none⟩) (Nat.le_refl _) (.int .i64 (x : Int))
          have hsz : (Try.prog.info? 104).map (·.size) = some (rowV (mv l a b)).toArray.size := by rw [show (rowV (mv l a b)).toArray.size = 15 by rw [List.size_toArray, rowV_length, mv_length (by rw [HN.out]; exact ha) (by rw [HN.out]; exact hb), HN.out]]; kernel_rfl
          have HSZ := Lib.hid hsz
          clear hsz
          go_wp2_with (refine wpList_load_row rfl 104 _ rfl g rfl 104 _ (0, 0) _ HG4.out Try.underlying104 rfl HSZ.out ?_)
          go_loop [10, 11, 12, 43] (fun o _ _ i => ∃ k : Nat, k ≤ 15 ∧ i = .int .i64 k ∧ o = .int .u64 (wd c ((mv l a b).take k))) (fun _ _ _ i => 15 - (intOf i).toNat)
          case atStart => exact ⟨0, by omega, rfl, by rw [H15.out]; rfl⟩
          case round =>
            obtain ⟨k, hk, rfl, rfl⟩ := hrel
            by_cases hlt : k < 15
            · obtain ⟨y, hy⟩ : ∃ y, y = (mv l a b).getD k 0 := ⟨_, rfl⟩
              have hidx := idx_at (mv l a b) HML.out k hlt
              rw [← hy] at hidx
              have hy16 : y < 16 := by
                rw [hy, getD_eq (by rw [HML.out]; exact hlt)]
                exact HMT.out _ (List.getElem_mem _)
              have HO : Hid (bits .or .u64 (wd c ((mv l a b).take k) : Int) (IntKind.u64.wrap ((y : Int) * 2 ^ (4 + 4 * k))) = (wd c ((mv l a b).take (k + 1)) : Int)) := by
                rw [hy]; exact Lib.hid (or_slot c (mv l a b) k hc16 HMT.out HML.out hlt)
              clear hy
              go_wp2
              go_round
              case rel => exact ⟨k + 1, by omega, by go_num, by rw [HO.out]⟩
              case measure => simp [intOf]; omega
            · obtain rfl : k = 15 := by omega
              have HF2 : Hid ((mv l a b).take 15 = mv l a b) := Lib.hid (List.take_of_length_le (by rw [HML.out]; omega))
              rw [HF2.out]
              go_wp2
              go_ret
              exact ⟨rfl, by have hh := HGW.out; rw [← hh]; exact hb4⟩
end Go.Proofs.Ytgkjhlmfgaaddaa
end

section
/- The contracts of perm.Insert, perm.Remove; 'awake'. -/
namespace Go.Proofs.Ytgkjhlmfgaaddaa
open Go.RowKit
set_option maxRecDepth 8000
set_option linter.unusedVariables false

/-- What Insert answers: the word, the slot. -/
def insW (p i : Nat) : Nat := wd (p % 16 + 1) (mv (slots p) (p % 16) i)
def remW (p i : Nat) : Nat := wd (p % 16 - 1) (mv (slots p) i (p % 16 - 1))

set_option maxHeartbeats 400000 in
theorem insert_no (p : Nat) (i : Int) (w : World) (hp : p < 18446744073709551616) (h : ¬ Rt (slots p) ∨ (15 ≤ p % 16 ∨ i < 0 ∨ (p % 16 : Nat) < i)) :
    Calls Try.prog 49 #[.int .u64 p, .int .i64 i] w fun e w' => e = .returned (.tuple #[.int .u64 p, .int .i64 (-1), .bool false]) ∧ w = w' := by
  obtain ⟨c, hc⟩ : ∃ c, c = p % 16 := ⟨_, rfl⟩
  have HL : Hid (∀ w, Calls Try.prog 48 #[.int .u64 p] w fun e w' => e = .returned (.int .i64 c) ∧ w = w') := Lib.hid fun w => by rw [hc]; exact len_any p w hp
  have hc16 : c < 16 := by omega
  rw [← hc] at h
  by_cases hr : Rt (slots p)
  · have HR : Hid (∀ w, Calls Try.prog 46 #[.int .u64 p] w fun e w' => e = .returned (.bool true) ∧ w = w') := Lib.hid fun w => by have := right_any p w hp; rwa [rt_yes hr] at this
    have h' : 15 ≤ c ∨ (c < 15 ∧ i < 0) ∨ (c < 15 ∧ 0 ≤ i ∧ (c : Int) < i) := by
      rcases h with h | h
      · exact absurd hr h
      · omega
    clear h hc hr
    rcases h' with h1 | ⟨h1, h2⟩ | ⟨h1, h2, h3⟩
    all_goals
      go_enter Try.func49, Try.ntmps49
      go_wp2_with fail
      refine (HL.out _).mono ?_
      rintro e w' ⟨rfl, rfl⟩
      go_wp2_with fail
      refine (HR.out _).mono ?_
      rintro e w' ⟨rfl, rfl⟩
      go_wp2
      go_ret3
      exact ⟨rfl, rfl⟩
  · have HR : Hid (∀ w, Calls Try.prog 46 #[.int .u64 p] w fun e w' => e = .returned (.bool false) ∧ w = w') := Lib.hid fun w => by have := right_any p w hp; rwa [rt_no hr] at this
    clear h hc hr
    go_enter Try.func49, Try.ntmps49
    go_wp2_with fail
    refine (HL.out _).mono ?_
    rintro e w' ⟨rfl, rfl⟩
    go_wp2_with fail
    refine (HR.out _).mono ?_
    rintro e w' ⟨rfl, rfl⟩
    go_wp2
    go_ret3
    exact ⟨rfl, rfl⟩

theorem wd_word_lt {p a b c : Nat} (hc : c < 16) (ha : a < 15) (hb : b < 15) : wd c (mv (slots p) a b) < 18446744073709551616 :=
  wd_lt hc (by rw [mv_length (by rw [slots_length]; exact ha) (by rw [slots_length]; exact hb), slots_length]) (mv_below (by rw [slots_length]; exact ha) (slots_lt p))

set_option maxHeartbeats 400000 in
theorem insert_yes (p i : Nat) (w : World) (hp : p < 18446744073709551616) (hr : Rt (slots p)) (hn : p % 16 < 15) (hi : i ≤ p % 16) :
    Calls Try.prog 49 #[.int .u64 p, .int .i64 i] w fun e w' => e = .returned (.tuple #[.int .u64 (insW p i), .int .i64 (nib p (p % 16)), .bool true]) ∧ Below w.heap.size w w' := by
  obtain ⟨c, hc⟩ : ∃ c, c = p % 16 := ⟨_, rfl⟩
  unfold insW
  rw [← hc] at hn hi ⊢
  obtain ⟨W, hW⟩ : ∃ W, W = wd c (mv (slots p) c i) := ⟨_, rfl⟩
  have hWb : W < 18446744073709551615 := by
    have h2 := wd_word_lt (p := p) (a := c) (b := i) (c := c + 1) (by omega) hn (by omega)
    rw [← wd_add, ← hW] at h2
    omega
  have HL : Hid (∀ w, Calls Try.prog 48 #[.int .u64 p] w fun e w' => e = .returned (.int .i64 c) ∧ w = w') := Lib.hid fun w => by rw [hc]; exact len_any p w hp
  have HR : Hid (∀ w, Calls Try.prog 46 #[.int .u64 p] w fun e w' => e = .returned (.bool true) ∧ w = w') := Lib.hid fun w => by have := right_any p w hp; rwa [rt_yes hr] at this
  have HM : Hid (∀ w, Calls Try.prog 61 #[.int .u64 p, .int .i64 c, .int .i64 i] w fun e w' => e = .returned (.int .u64 W) ∧ Below w.heap.size w w') := Lib.hid fun w => by rw [hW]; have := move_any p c i w hp hn (by omega); rwa [← hc] at this
  have HA := Lib.hid (fun w => at_in p c w hp hn)
  have HW := Lib.hid (show ((W : Int) + 1) = ((wd (c + 1) (mv (slots p) c i) : Nat) : Int) by rw [← wd_add, ← hW]; simp)
  clear hc hW hr
  go_enter Try.func49, Try.ntmps49
  go_wp2_with fail
  refine (HL.out _).mono ?_
  rintro e w' ⟨rfl, rfl⟩
  go_wp2_with fail
  refine (HR.out _).mono ?_
  rintro e w' ⟨rfl, rfl⟩
  go_wp2_with fail
  refine (HM.out _).mono ?_
  rintro e w1 ⟨rfl, hb1⟩
  go_wp2_with fail
  refine (HA.out _).mono ?_
  rintro e w' ⟨rfl, rfl⟩
  go_wp2
  rw [HW.out]
  go_ret3
  exact ⟨rfl, hb1⟩

set_option maxHeartbeats 400000 in
theorem remove_no (p : Nat) (i : Int) (w : World) (hp : p < 18446744073709551616) (h : ¬ Rt (slots p) ∨ (i < 0 ∨ (p % 16 : Nat) ≤ i)) :
    Calls Try.prog 56 #[.int .u64 p, .int .i64 i] w fun e w' => e = .returned (.tuple #[.int .u64 p, .int .i64 (-1), .bool false]) ∧ w = w' := by
  obtain ⟨c, hc⟩ : ∃ c, c = p % 16 := ⟨_, rfl⟩
  have HL : Hid (∀ w, Calls Try.prog 48 #[.int .u64 p] w fun e w' => e = .returned (.int .i64 c) ∧ w = w') := Lib.hid fun w => by rw [hc]; exact len_any p w hp
  rw [← hc] at h
  by_cases hr : Rt (slots p)
  · have HR : Hid (∀ w, Calls Try.prog 46 #[.int .u64 p] w fun e w' => e = .returned (.bool true) ∧ w = w') := Lib.hid fun w => by have := right_any p w hp; rwa [rt_yes hr] at this
    have h' : i < 0 ∨ (0 ≤ i ∧ (c : Int) ≤ i) := by
      rcases h with h | h
      · exact absurd hr h
      · omega
    clear h hc hr
    rcases h' with h2 | ⟨h2, h3⟩
    all_goals
      go_enter Try.func56, Try.ntmps56
      go_wp2_with fail
      refine (HL.out _).mono ?_
      rintro e w' ⟨rfl, rfl⟩
      go_wp2_with fail
      refine (HR.out _).mono ?_
      rintro e w' ⟨rfl, rfl⟩
      go_wp2
      go_ret3
      exact ⟨rfl, rfl⟩
  · have HR : Hid (∀ w, Calls Try.prog 46 #[.int .u64 p] w fun e w' => e = .returned (.bool false) ∧ w = w') := Lib.hid fun w => by have := right_any p w hp; rwa [rt_no hr] at this
    clear h hc hr
    go_enter Try.func56, Try.ntmps56
    go_wp2_with fail
    refine (HL.out _).mono ?_
    rintro e w' ⟨rfl, rfl⟩
    go_wp2_with fail
    refine (HR.out _).mono ?_
    rintro e w' ⟨rfl, rfl⟩
    go_wp2
    go_ret3
    exact ⟨rfl, rfl⟩

set_option maxHeartbeats 400000 in
theorem remove_yes (p i : Nat) (w : World) (hp : p < 18446744073709551616) (hr : Rt (slots p)) (hi : i < p % 16) :
    Calls Try.prog 56 #[.int .u64 p, .int .i64 i] w fun e w' => e = .returned (.tuple #[.int .u64 (remW p i), .int .i64 (nib p i), .bool true]) ∧ Below w.heap.size w w' := by
  obtain ⟨c, hc⟩ : ∃ c, c = p % 16 - 1 := ⟨_, rfl⟩
  have hc' : p % 16 = c + 1 := by omega
  unfold remW
  rw [← hc]
  rw [hc'] at hi
  obtain ⟨W, hW⟩ : ∃ W, W = wd (c + 1) (mv (slots p) i c) := ⟨_, rfl⟩
  have hW1 : W = wd c (mv (slots p) i c) + 1 := by rw [hW, wd_add]
  have hWb : W < 18446744073709551616 := by rw [hW]; exact wd_word_lt (by omega) (by omega) (by omega)
  have hW0 : 1 ≤ W := by omega
  have HL : Hid (∀ w, Calls Try.prog 48 #[.int .u64 p] w fun e w' => e = .returned (.int .i64 ((c : Int) + 1)) ∧ w = w') := Lib.hid fun w => by have := len_any p w hp; rw [hc'] at this; simpa using this
  have HR : Hid (∀ w, Calls Try.prog 46 #[.int .u64 p] w fun e w' => e = .returned (.bool true) ∧ w = w') := Lib.hid fun w => by have := right_any p w hp; rwa [rt_yes hr] at this
  have HM : Hid (∀ w, Calls Try.prog 61 #[.int .u64 p, .int .i64 i, .int .i64 c] w fun e w' => e = .returned (.int .u64 W) ∧ Below w.heap.size w w') := Lib.hid fun w => by rw [hW]; have := move_any p i c w hp (by omega) (by omega); rwa [hc'] at this
  have HA := Lib.hid (fun w => at_in p i w hp (by omega))
  have HW := Lib.hid (show ((W : Int) - 1) = ((wd c (mv (slots p) i c) : Nat) : Int) by rw [hW1]; simp)
  have hc15 : c < 15 := by omega
  clear hc hc' hW hW1 hr
  go_enter Try.func56, Try.ntmps56
  go_wp2_with fail
  refine (HL.out _).mono ?_
  rintro e w' ⟨rfl, rfl⟩
  go_wp2_with fail
  refine (HR.out _).mono ?_
  rintro e w' ⟨rfl, rfl⟩
  go_wp2_with fail
  refine (HM.out _).mono ?_
  rintro e w1 ⟨rfl, hb1⟩
  go_wp2_with fail
  refine (HA.out _).mono ?_
  rintro e w' ⟨rfl, rfl⟩
  go_wp2
  rw [HW.out]
  go_ret3
  exact ⟨rfl, hb1⟩
end Go.Proofs.Ytgkjhlmfgaaddaa
end
