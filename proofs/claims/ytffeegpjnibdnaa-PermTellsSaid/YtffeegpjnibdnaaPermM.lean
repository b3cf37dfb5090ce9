/- Plain facts on the words of layer 13 (perm): a word is its count and fifteen slots. No program in sight. -/
import Derived.WalkKit
import Derived.Laws.BitsAllLaws
set_option linter.unusedVariables false
set_option linter.unusedSimpArgs false
namespace Go.Proofs.Ytffeegpjnibdnaa

/-- The number in a place. -/
def nib (p i : Nat) : Nat := p / 16 ^ (i + 1) % 16
theorem nib_lt (p i : Nat) : nib p i < 16 := Nat.mod_lt _ (by omega)
def slots (p : Nat) : List Nat := (List.range 15).map (nib p)
theorem slots_length (p : Nat) : (slots p).length = 15 := by simp [slots]
theorem slots_get (p i : Nat) (h : i < 15) : (slots p)[i]? = some (nib p i) := by simp [slots, h]
theorem slots_lt (p : Nat) : ∀ x ∈ slots p, x < 16 := by
  intro x hx
  obtain ⟨i, _, rfl⟩ := List.mem_map.1 hx
  exact nib_lt p i

/-- A list of numbers below 16 as one number, the first one the lowest. -/
def dig : List Nat → Nat
  | [] => 0
  | x :: r => x + 16 * dig r
/-- A word of a count and slots. -/
def wd (c : Nat) (l : List Nat) : Nat := c + 16 * dig l

theorem dig_lt : ∀ (l : List Nat), (∀ x ∈ l, x < 16) → dig l < 16 ^ l.length
  | [], _ => by simp [dig]
  | x :: r, h => by
    have h1 := dig_lt r (fun y hy => h y (List.mem_cons_of_mem _ hy))
    have h2 := h x List.mem_cons_self
    rw [dig, List.length_cons, Nat.pow_succ]
    omega
theorem wd_lt {c : Nat} {l : List Nat} (hc : c < 16) (hl : l.length = 15) (h : ∀ x ∈ l, x < 16) : wd c l < 18446744073709551616 := by
  have := dig_lt l h
  rw [hl] at this
  unfold wd
  have e : (16 : Nat) ^ 15 = 1152921504606846976 := by decide
  omega
theorem wd_mod {c : Nat} (l : List Nat) (hc : c < 16) : wd c l % 16 = c := by unfold wd; omega
theorem wd_add (c : Nat) (l : List Nat) (d : Nat) : wd c l + d = wd (c + d) l := by unfold wd; omega
theorem dig_get : ∀ (l : List Nat) (i : Nat), (∀ x ∈ l, x < 16) → dig l / 16 ^ i % 16 = l.getD i 0
  | [], i, _ => by simp [dig]
  | x :: r, 0, h => by
    have h2 := h x List.mem_cons_self
    simp [dig]; omega
  | x :: r, i + 1, h => by
    have ih := dig_get r i (fun y hy => h y (List.mem_cons_of_mem _ hy))
    have h2 := h x List.mem_cons_self
    rw [Nat.pow_succ', ← Nat.div_div_eq_div_mul, dig, show (x + 16 * dig r) / 16 = dig r by omega, ih]
    simp
theorem nib_wd {c : Nat} {l : List Nat} (i : Nat) (hc : c < 16) (h : ∀ x ∈ l, x < 16) : nib (wd c l) i = l.getD i 0 := by
  unfold nib wd
  rw [Nat.pow_succ', ← Nat.div_div_eq_div_mul, show (c + 16 * dig l) / 16 = dig l by omega, dig_get l i h]
theorem slots_wd {c : Nat} {l : List Nat} (hc : c < 16) (hl : l.length = 15) (h : ∀ x ∈ l, x < 16) : slots (wd c l) = l := by
  apply List.ext_getElem?
  intro i
  by_cases hi : i < 15
  · rw [slots_get _ _ hi, nib_wd i hc h, List.getD_eq_getElem?_getD, List.getElem?_eq_getElem (by omega)]
    rfl
  · rw [List.getElem?_eq_none (by rw [slots_length]; omega), List.getElem?_eq_none (by omega)]
theorem dig_slots : ∀ (n : Nat) (p : Nat), p < 16 ^ n → dig ((List.range n).map fun i => p / 16 ^ i % 16) = p
  | 0, p, h => by simp [dig]; omega
  | n + 1, p, h => by
    have ih := dig_slots n (p / 16) (by rw [Nat.pow_succ] at h; omega)
    rw [List.range_succ_eq_map, List.map_cons, List.map_map, dig]
    have e : ((fun i => p / 16 ^ i % 16) ∘ Nat.succ) = fun i => p / 16 / 16 ^ i % 16 := by
      funext i
      simp only [Function.comp, Nat.succ_eq_add_one]
      rw [Nat.pow_succ', Nat.div_div_eq_div_mul]
    rw [e, ih]
    simp
    omega
theorem wd_slots (p : Nat) (h : p < 18446744073709551616) : wd (p % 16) (slots p) = p := by
  have e : slots p = (List.range 15).map fun i => p / 16 / 16 ^ i % 16 := by
    unfold slots
    apply List.map_congr_left
    intro i _
    unfold nib
    rw [Nat.pow_succ', Nat.div_div_eq_div_mul]
  have h15 : (16 : Nat) ^ 15 = 1152921504606846976 := by decide
  unfold wd
  rw [e, dig_slots 15 (p / 16) (by omega)]
  omega
theorem wd_inj {c d : Nat} {l m : List Nat} (hc : c < 16) (hd : d < 16) (hl : l.length = 15) (hm : m.length = 15) (kl : ∀ x ∈ l, x < 16) (km : ∀ x ∈ m, x < 16) (h : wd c l = wd d m) : c = d ∧ l = m :=
  ⟨by rw [← wd_mod l hc, h, wd_mod m hd], by rw [← slots_wd hc hl kl, h, slots_wd hd hm km]⟩

/-! ### Right words -/
/-- Each number below 15 is there. -/
def Rt (l : List Nat) : Prop := ∀ x, x < 15 → x ∈ l
def rt (l : List Nat) : Bool := (List.range 15).all (l.contains ·)
theorem rt_iff (l : List Nat) : rt l = true ↔ Rt l := by simp [rt, Rt]
theorem rt_yes {l : List Nat} (h : Rt l) : rt l = true := (rt_iff l).2 h
theorem rt_no {l : List Nat} (h : ¬ Rt l) : rt l = false := by cases e : rt l; rfl; exact absurd ((rt_iff l).1 e) h

theorem below_len : ∀ (n : Nat) (l : List Nat), (∀ x, x < n → x ∈ l) → n ≤ l.length
  | 0, _, _ => Nat.zero_le _
  | n + 1, l, h => by
    have ih := below_len n (l.erase n) (fun x hx => (List.mem_erase_of_ne (by omega)).2 (h x (by omega)))
    have hm := h n (by omega)
    have := List.length_erase_of_mem hm
    have := List.length_pos_of_mem hm
    omega
theorem rt_nodup : ∀ (n : Nat) (l : List Nat), l.length = n → (∀ x, x < n → x ∈ l) → l.Nodup ∧ ∀ x ∈ l, x < n
  | 0, l, hl, _ => by rw [List.length_eq_zero_iff.1 hl]; simp
  | n + 1, l, hl, h => by
    have hm := h n (by omega)
    have hp := List.perm_cons_erase hm
    have hlen := List.length_erase_of_mem hm
    obtain ⟨ih1, ih2⟩ := rt_nodup n (l.erase n) (by omega) (fun x hx => (List.mem_erase_of_ne (by omega)).2 (h x (by omega)))
    constructor
    · rw [hp.nodup_iff, List.nodup_cons]
      exact ⟨fun hn => by have := ih2 n hn; omega, ih1⟩
    · intro x hx
      rw [hp.mem_iff, List.mem_cons] at hx
      rcases hx with rfl | hx
      · omega
      · have := ih2 x hx; omega
theorem nodup_rt : ∀ (n : Nat) (l : List Nat), l.length = n → l.Nodup → (∀ x ∈ l, x < n) → ∀ x, x < n → x ∈ l
  | 0, _, _, _, _ => fun x h => by omega
  | n + 1, l, hl, hd, h => by
    by_cases hm : n ∈ l
    · have hp := List.perm_cons_erase hm
      have hlen := List.length_erase_of_mem hm
      have hd' := hp.nodup_iff.1 hd
      rw [List.nodup_cons] at hd'
      have ih := nodup_rt n (l.erase n) (by omega) hd'.2 (fun x hx => by
        have h1 := h x (List.mem_of_mem_erase hx)
        have h2 : x ≠ n := fun e => hd'.1 (e ▸ hx)
        omega)
      intro x hx
      by_cases e : x = n
      · exact e ▸ hm
      · exact List.mem_of_mem_erase (ih x (by omega))
    · exfalso
      have h' : ∀ x ∈ l, x < n := fun x hx => by
        have h1 := h x hx
        have h2 : x ≠ n := fun e => hm (e ▸ hx)
        omega
      have : ∀ (m : Nat) (l : List Nat), l.Nodup → (∀ x ∈ l, x < m) → l.length ≤ m := by
        intro m
        induction m with
        | zero => intro l _ hx; cases l with
          | nil => simp
          | cons a r => exact absurd (hx a List.mem_cons_self) (by omega)
        | succ m ih =>
          intro l hd hx
          have h1 := ih (l.erase m) (hd.erase m) (fun x hxm => by
            have := hx x (List.mem_of_mem_erase hxm)
            have : x ≠ m := fun e => by subst e; exact (hd.not_mem_erase) hxm
            omega)
          by_cases hml : m ∈ l
          · have h2 := List.length_erase_of_mem hml
            omega
          · rw [List.erase_of_not_mem hml] at h1
            omega
      have := this n l hd h'
      omega

/-! ### The bits that are seen -/
def orb : List Nat → Nat
  | [] => 0
  | x :: r => 2 ^ x ||| orb r
theorem orb_bit : ∀ (l : List Nat) (j : Nat), (orb l).testBit j = decide (j ∈ l)
  | [], j => by simp [orb]
  | x :: r, j => by
    rw [orb, Nat.testBit_or, orb_bit r j, Nat.testBit_two_pow, Bool.eq_iff_iff]
    simp only [Bool.or_eq_true, decide_eq_true_iff, List.mem_cons]
    exact ⟨fun h => h.elim (fun e => .inl e.symm) .inr, fun h => h.elim (fun e => .inl e.symm) .inr⟩
theorem orb_snoc (l : List Nat) (x : Nat) : orb (l ++ [x]) = orb l ||| 2 ^ x := by
  apply Nat.eq_of_testBit_eq
  intro j
  rw [Nat.testBit_or, orb_bit, orb_bit, Nat.testBit_two_pow, Bool.eq_iff_iff]
  simp only [Bool.or_eq_true, decide_eq_true_iff, List.mem_append, List.mem_singleton]
  exact ⟨fun h => h.elim .inl (fun e => .inr e.symm), fun h => h.elim .inl (fun e => .inr e.symm)⟩
theorem orb_lt (l : List Nat) (h : ∀ x ∈ l, x < 16) : orb l < 65536 := by
  have : orb l < 2 ^ 16 := Nat.lt_pow_two_of_testBit _ fun i hi => by
    rw [orb_bit]
    simp only [decide_eq_false_iff_not]
    intro hm
    have := h i hm
    omega
  exact this
theorem orb_all (l : List Nat) (hl : l.length = 15) : orb l = 32767 ↔ Rt l := by
  constructor
  · intro h x hx
    have hb := orb_bit l x
    rw [h, show (32767 : Nat) = 2 ^ 15 - 1 by rfl, Nat.testBit_two_pow_sub_one] at hb
    simpa [hx] using hb.symm
  · intro h
    obtain ⟨_, hb⟩ := rt_nodup 15 l hl h
    apply Nat.eq_of_testBit_eq
    intro j
    rw [orb_bit, show (32767 : Nat) = 2 ^ 15 - 1 by rfl, Nat.testBit_two_pow_sub_one, Bool.eq_iff_iff]
    simp only [decide_eq_true_iff]
    exact ⟨fun hm => hb j hm, fun hj => h j hj⟩
theorem wrap_i64_at (n : Nat) (h : n < 9223372036854775808) : IntKind.i64.wrap (n : Int) = (n : Int) := by
  have e : (n : Int) % 2 ^ 64 = n := Int.emod_eq_of_lt (by omega) (by omega)
  simp only [IntKind.wrap, IntKind.bits, IntKind.signed, e]
  rw [if_neg]
  simp
  omega
theorem i64_or_nat (a b : Nat) (ha : a < 65536) (hb : b < 65536) : bits .or .i64 (a : Int) (b : Int) = ((a ||| b : Nat) : Int) := by
  show IntKind.i64.wrap ((BitVec.ofInt 64 (a : Int) ||| BitVec.ofInt 64 (b : Int)).toNat : Int) = _
  have := Nat.or_lt_two_pow (x := a) (y := b) (n := 16) ha hb
  rw [BitVec.toNat_or, ofInt_u64 a (by omega), ofInt_u64 b (by omega)]
  exact wrap_i64_at _ (by omega)

/-! ### A number is taken out, and put in at another place -/
def ers (l : List Nat) (a : Nat) : List Nat := l.take a ++ l.drop (a + 1)
def ins (e : List Nat) (b x : Nat) : List Nat := e.take b ++ x :: e.drop b
def mv (l : List Nat) (a b : Nat) : List Nat := ins (ers l a) b (l.getD a 0)
theorem ers_length {l : List Nat} {a : Nat} (h : a < l.length) : (ers l a).length = l.length - 1 := by simp [ers]; omega
theorem ins_length {e : List Nat} {b x : Nat} (h : b ≤ e.length) : (ins e b x).length = e.length + 1 := by simp [ins]; omega
theorem getD_eq {l : List Nat} {a : Nat} (h : a < l.length) : l.getD a 0 = l[a] := by rw [List.getD_eq_getElem?_getD, List.getElem?_eq_getElem h]; rfl
theorem ins_ers {l : List Nat} {a : Nat} (h : a < l.length) : ins (ers l a) a (l.getD a 0) = l := by
  unfold ins ers
  rw [List.take_left' (by simp; omega), List.drop_left' (by simp; omega), getD_eq h, List.getElem_cons_drop h, List.take_append_drop]
theorem ers_ins {e : List Nat} {b x : Nat} (h : b ≤ e.length) : ers (ins e b x) b = e := by
  unfold ins ers
  rw [List.take_left' (by simp; omega)]
  have : (e.take b ++ x :: e.drop b).drop (b + 1) = e.drop b := by
    rw [show e.take b ++ x :: e.drop b = (e.take b ++ [x]) ++ e.drop b by simp, List.drop_left' (by simp; omega)]
  rw [this, List.take_append_drop]
theorem ins_get {e : List Nat} {b x : Nat} (h : b ≤ e.length) : (ins e b x).getD b 0 = x := by
  unfold ins
  rw [List.getD_eq_getElem?_getD, List.getElem?_append_right (by simp; omega)]
  simp [Nat.min_eq_left h]
theorem ins_perm (e : List Nat) (b x : Nat) : (ins e b x).Perm (x :: e) := by
  unfold ins
  exact List.perm_middle.trans (by rw [List.take_append_drop])
theorem ers_perm {l : List Nat} {a : Nat} (h : a < l.length) : l.Perm (l.getD a 0 :: ers l a) := by
  have := ins_perm (ers l a) a (l.getD a 0)
  rwa [ins_ers h] at this
theorem mv_length {l : List Nat} {a b : Nat} (ha : a < l.length) (hb : b < l.length) : (mv l a b).length = l.length := by
  unfold mv
  rw [ins_length (by rw [ers_length ha]; omega), ers_length ha]
  omega
theorem mv_perm {l : List Nat} {a b : Nat} (ha : a < l.length) : (mv l a b).Perm l := (ins_perm _ _ _).trans (ers_perm ha).symm
theorem mv_mem {l : List Nat} {a b : Nat} (ha : a < l.length) (x : Nat) : x ∈ mv l a b ↔ x ∈ l := (mv_perm ha).mem_iff
theorem mv_Rt {l : List Nat} {a b : Nat} (ha : a < l.length) (h : Rt l) : Rt (mv l a b) := fun x hx => (mv_mem ha x).2 (h x hx)
theorem mv_below {l : List Nat} {a b n : Nat} (ha : a < l.length) (h : ∀ x ∈ l, x < n) : ∀ x ∈ mv l a b, x < n := fun x hx => h x ((mv_mem ha x).1 hx)
theorem mv_get {l : List Nat} {a b : Nat} (ha : a < l.length) (hb : b < l.length) : (mv l a b).getD b 0 = l.getD a 0 := ins_get (by rw [ers_length ha]; omega)
theorem mv_back {l : List Nat} {a b : Nat} (ha : a < l.length) (hb : b < l.length) : mv (mv l a b) b a = l := by
  have h1 := mv_get ha hb
  unfold mv at h1 ⊢
  rw [h1, ers_ins (by rw [ers_length ha]; omega), ins_ers ha]
end Go.Proofs.Ytffeegpjnibdnaa
