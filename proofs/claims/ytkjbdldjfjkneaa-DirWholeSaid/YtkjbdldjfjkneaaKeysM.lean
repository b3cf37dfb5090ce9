/- Plain facts on lists of bytes: their order, and how far two are alike. No program in sight. -/
import Derived.Lib.Bytealg
import Derived.WalkKit
import Derived.Laws.BitsAllLaws
import Derived.Laws.BytesString
set_option linter.unusedVariables false
set_option linter.unusedSimpArgs false
namespace Go.Proofs.Ytkjbdldjfjkneaa
open Go.Lib (compareBytes)

/-- How far two lists are alike. -/
def com : List UInt8 → List UInt8 → Nat
  | a :: x, b :: y => if a = b then com x y + 1 else 0
  | [], _ => 0
  | _ :: _, [] => 0

theorem com_le_l : ∀ a b, com a b ≤ a.length
  | [], _ => by simp [com]
  | _ :: _, [] => by simp [com]
  | a :: x, b :: y => by
    have := com_le_l x y
    unfold com; split <;> simp <;> omega

theorem com_comm : ∀ a b, com a b = com b a
  | [], [] => rfl
  | [], _ :: _ => by simp [com]
  | _ :: _, [] => by simp [com]
  | a :: x, b :: y => by
    have := com_comm x y
    unfold com
    by_cases h : a = b
    · rw [if_pos h, if_pos h.symm, this]
    · rw [if_neg h, if_neg (fun e => h e.symm)]

theorem com_le_r (a b) : com a b ≤ b.length := by rw [com_comm]; exact com_le_l b a

theorem com_get : ∀ (a b : List UInt8) i, i < com a b → a[i]? = b[i]?
  | [], _, i, h => by simp [com] at h
  | _ :: _, [], i, h => by simp [com] at h
  | a :: x, b :: y, i, h => by
    unfold com at h
    split at h
    · rename_i e
      subst e
      cases i with
      | zero => simp
      | succ i => simpa using com_get x y i (by omega)
    · omega

theorem com_stop : ∀ (a b : List UInt8), com a b < a.length → com a b < b.length → a[com a b]? ≠ b[com a b]?
  | [], _, h, _ => by simp at h
  | _ :: _, [], _, h => by simp at h
  | a :: x, b :: y, h, k => by
    unfold com at h k ⊢
    by_cases e : a = b
    · rw [if_pos e] at h k ⊢
      simpa using com_stop x y (by simpa using h) (by simpa using k)
    · rw [if_neg e]; simpa using e

/-- What is alike so far, and ends or parts there. -/
theorem com_eq (a b : List UInt8) (k : Nat) (ha : k ≤ a.length) (hb : k ≤ b.length) (h : ∀ i, i < k → a[i]? = b[i]?) (he : k = a.length ∨ k = b.length ∨ a[k]? ≠ b[k]?) : com a b = k := by
  rcases Nat.lt_trichotomy (com a b) k with hl | hl | hl
  · exact absurd (h _ hl) (com_stop a b (by omega) (by omega))
  · exact hl
  · have := com_le_l a b
    have := com_le_r a b
    rcases he with he | he | he
    · omega
    · omega
    · exact absurd (com_get a b k hl) he

theorem com_self (a) : com a a = a.length := com_eq a a _ (Nat.le_refl _) (Nat.le_refl _) (fun _ _ => rfl) (.inl rfl)

theorem com_ge (a b : List UInt8) (k : Nat) (ha : k ≤ a.length) (hb : k ≤ b.length) (h : ∀ i, i < k → a[i]? = b[i]?) : k ≤ com a b := by
  rcases Nat.lt_or_ge (com a b) k with hl | hl
  · exact absurd (h _ hl) (com_stop a b (by omega) (by omega))
  · exact hl

theorem com_succ (a b : List UInt8) (k : Nat) (ha : k < a.length) (hb : k < b.length) (hk : k ≤ com a b) (h : a[k]? = b[k]?) : k + 1 ≤ com a b := by
  refine com_ge a b _ (by omega) (by omega) fun i hi => ?_
  rcases Nat.lt_or_ge i k with hl | hl
  · exact com_get a b i (by omega)
  · obtain rfl : i = k := by omega
    exact h

theorem com_take (a b : List UInt8) (k : Nat) (hk : k ≤ com a b) : a.take k = b.take k := by
  refine List.ext_getElem? fun i => ?_
  rw [List.getElem?_take, List.getElem?_take]
  split
  · exact com_get a b i (by omega)
  · rfl

theorem com_trans (a b c : List UInt8) : min (com a b) (com b c) ≤ com a c := by
  have h1 := com_le_l a b
  have h2 := com_le_r b c
  refine com_ge a c _ (by omega) (by omega) fun i hi => ?_
  rw [com_get a b i (by omega), com_get b c i (by omega)]

/-! ### The order -/
theorem lt_cons (a b : UInt8) (x y : List UInt8) : a :: x < b :: y ↔ a < b ∨ a = b ∧ x < y := List.cons_lt_cons_iff

theorem lt_irrefl (a : List UInt8) : ¬ a < a := List.lt_irrefl a
theorem lt_trans {a b c : List UInt8} (h : a < b) (k : b < c) : a < c := List.lt_trans h k
theorem lt_asymm {a b : List UInt8} (h : a < b) : ¬ b < a := fun k => lt_irrefl a (lt_trans h k)
theorem lt_tri : ∀ (a b : List UInt8), a < b ∨ a = b ∨ b < a
  | [], [] => .inr (.inl rfl)
  | [], _ :: _ => .inl (by simp)
  | _ :: _, [] => .inr (.inr (by simp))
  | a :: x, b :: y => by
    have ih := lt_tri x y
    rw [lt_cons, lt_cons]
    by_cases e : a = b
    · subst e
      rcases ih with h | h | h
      · exact .inl (.inr ⟨rfl, h⟩)
      · exact .inr (.inl (by rw [h]))
      · exact .inr (.inr (.inr ⟨rfl, h⟩))
    · rcases Nat.lt_trichotomy a.toNat b.toNat with h | h | h
      · exact .inl (.inl h)
      · exact absurd (UInt8.toNat_inj.1 h) e
      · exact .inr (.inr (.inl h))

theorem cmp_eq_if : ∀ (a b : List UInt8), compareBytes a b = if a < b then -1 else if b < a then 1 else 0
  | [], [] => by simp [compareBytes]
  | [], _ :: _ => by simp [compareBytes]
  | _ :: _, [] => by simp [compareBytes]
  | a :: x, b :: y => by
    have ih := cmp_eq_if x y
    unfold compareBytes
    simp only [lt_cons]
    by_cases h : a < b
    · simp [h]
    · by_cases k : b < a
      · have hn : ¬ a = b := fun e => by subst e; exact h k
        simp [h, k, hn]
      · have e : a = b := UInt8.toNat_inj.1 (by have h' : ¬ a.toNat < b.toNat := h; have k' : ¬ b.toNat < a.toNat := k; omega)
        subst e
        simp [h, ih]

theorem cmp_lt {a b : List UInt8} (h : a < b) : compareBytes a b = -1 := by rw [cmp_eq_if, if_pos h]
theorem cmp_gt {a b : List UInt8} (h : b < a) : compareBytes a b = 1 := by rw [cmp_eq_if, if_neg (lt_asymm h), if_pos h]
theorem cmp_self (a : List UInt8) : compareBytes a a = 0 := by rw [cmp_eq_if, if_neg (lt_irrefl a), if_neg (lt_irrefl a)]

/-- The order, by how far two are alike. -/
theorem lt_com : ∀ (a b : List UInt8), a < b ↔ com a b < b.length ∧ (com a b = a.length ∨ (a[com a b]?.getD 0) < (b[com a b]?.getD 0))
  | [], [] => by simp
  | [], _ :: _ => by simp [com]
  | _ :: _, [] => by simp
  | a :: x, b :: y => by
    have ih := lt_com x y
    rw [lt_cons]
    unfold com
    by_cases e : a = b
    · subst e
      rw [if_pos rfl]
      have hn : ¬ a < a := UInt8.lt_irrefl a
      simp [hn, ih]
    · rw [if_neg e]
      simp [e]


/-- A beginning of one is above the other just if it is long enough. -/
theorem lt_take : ∀ (a b : List UInt8) (n : Nat), a < b.take n ↔ a < b ∧ com a b < n
  | [], [], n => by simp
  | [], _ :: _, 0 => by simp
  | [], _ :: _, _ + 1 => by simp [com]
  | _ :: _, [], n => by simp
  | _ :: _, _ :: _, 0 => by simp
  | a :: x, b :: y, n + 1 => by
    have ih := lt_take x y n
    rw [List.take_succ_cons, lt_cons, lt_cons]
    unfold com
    by_cases e : a = b
    · subst e
      have hn : ¬ a < a := UInt8.lt_irrefl a
      simp [hn, ih]
    · simp [e]

def ltB (a b : List UInt8) : Bool := decide (a < b)
theorem ltB_yes {a b : List UInt8} (h : a < b) : ltB a b = true := by simp [ltB, h]
theorem ltB_no {a b : List UInt8} (h : ¬ a < b) : ltB a b = false := by simp [ltB, h]

/-! ### Slices -/
/-- The first k bytes of a list as a number, the first one the greatest; a byte that is not there is 0. -/
def slNum (l : List UInt8) : Nat → Nat
  | 0 => 0
  | k + 1 => slNum l k * 256 + (l[k]?.getD 0).toNat

theorem slNum_lt (l : List UInt8) : ∀ k, slNum l k < 256 ^ k
  | 0 => by simp [slNum]
  | k + 1 => by
    have := slNum_lt l k
    have := (l[k]?.getD 0).toNat_lt
    rw [slNum, Nat.pow_succ]
    omega

theorem slNum_lt7 (l : List UInt8) (k : Nat) (h : k < 8) : slNum l k < 72057594037927936 := by
  have h1 := slNum_lt l k
  have h2 : 256 ^ k ≤ 256 ^ 7 := Nat.pow_le_pow_right (by omega) (by omega)
  omega
theorem slNum_lt8 (l : List UInt8) : slNum l 8 < 18446744073709551616 := slNum_lt l 8

theorem or_step (x b : Nat) (hx : x < 72057594037927936) (hb : b < 256) : bits .or .u64 ((x : Int) * 256) (IntKind.u64.wrap (b : Int)) = ((x * 256 + b : Nat) : Int) := by
  have e1 : ((x : Int) * 256) = ((x * 256 : Nat) : Int) := by omega
  have e2 : IntKind.u64.wrap (b : Int) = (b : Int) := by rw [IntKind.wrap_u64]; omega
  rw [e1, e2, u64_or_nat _ _ (by omega) (by omega), nat_join 8 _ _ (by omega) (by omega)]

def slIn (l : List UInt8) (i : Int) : Bool := decide (0 ≤ i ∧ 8 * i < l.length)
def sliceN (l : List UInt8) (i : Int) : Nat := if slIn l i then slNum (l.drop (8 * i.toNat)) 8 else 0
def sliceC (l : List UInt8) (i : Int) : Nat := if slIn l i then min (l.length - 8 * i.toNat) 9 else 0
theorem slIn_yes {l : List UInt8} {i : Int} (h : 0 ≤ i ∧ 8 * i < l.length) : slIn l i = true := by simp [slIn, h]
theorem slIn_no {l : List UInt8} {i : Int} (h : i < 0 ∨ l.length ≤ 8 * i) : slIn l i = false := by simp [slIn]; omega

theorem slNum_congr (l m : List UInt8) : ∀ k, (∀ i, i < k → l[i]?.getD 0 = m[i]?.getD 0) → slNum l k = slNum m k
  | 0, _ => rfl
  | k + 1, h => by rw [slNum, slNum, slNum_congr l m k (fun i hi => h i (by omega)), h k (by omega)]


/-! ### The text of a slice -/
/-- Byte number k of a number of eight bytes, the first one the greatest. -/
def ub (n k : Nat) : UInt8 := UInt8.ofNat (n / 2 ^ (8 * (7 - k)) % 256)
theorem ub_toNat (n k : Nat) : (ub n k).toNat = n / 2 ^ (8 * (7 - k)) % 256 := by
  simp [ub]
theorem ub_cast (n k : Nat) : ((ub n k).toNat : Int) = (n : Int) / 2 ^ (8 * (7 - k)) % 256 := by
  rw [ub_toNat]; simp
def unslB (n c : Nat) : List UInt8 := (List.range c).map (ub n)
def unsl (n : Nat) (c : Int) : List UInt8 := if 1 ≤ c ∧ c ≤ 9 then unslB n (min c.toNat 8) else []
theorem unslB_length (n c : Nat) : (unslB n c).length = c := by simp [unslB]
theorem unslB_get (n c j : Nat) (h : j < c) : (unslB n c)[j]? = some (ub n j) := by simp [unslB, h]

/-- A row of c bytes of which the first k have been written. -/
def ubRow (n c k : Nat) : Array Value := ((List.range c).map fun j => if j < k then Value.int .u8 (ub n j).toNat else .int .u8 0).toArray
theorem ubRow_size (n c k : Nat) : (ubRow n c k).size = c := by simp [ubRow]
theorem ubRow_zero (n c : Nat) : madeCells #[Value.int .u8 0] c = ubRow n c 0 := by
  apply Array.toList_inj.1
  rw [toList_madeCells_one, ubRow]
  simp
  rw [List.map_const', List.length_range]
theorem ubRow_get (n c k j : Nat) (h : j < c) : (ubRow n c k)[j]? = some (if j < k then Value.int .u8 (ub n j).toNat else .int .u8 0) := by
  simp [ubRow, h]
theorem ubRow_set (n c k : Nat) : (ubRow n c k).setIfInBounds k (.int .u8 (ub n k).toNat) = ubRow n c (k + 1) := by
  apply Array.ext_getElem?
  intro i
  rw [Array.getElem?_setIfInBounds, ubRow_size]
  by_cases hi : i < c
  · rw [ubRow_get _ _ _ _ hi, ubRow_get _ _ _ _ hi]
    by_cases e : k = i
    · subst e; simp [hi]
    · rw [if_neg e]
      by_cases h : i < k
      · rw [if_pos h, if_pos (by omega)]
      · rw [if_neg h, if_neg (by omega)]
  · have h1 : (ubRow n c k)[i]? = none := by rw [Array.getElem?_eq_none]; rw [ubRow_size]; omega
    have h2 : (ubRow n c (k + 1))[i]? = none := by rw [Array.getElem?_eq_none]; rw [ubRow_size]; omega
    rw [h1, h2]
    split
    · rw [if_neg (by omega)]
    · rfl

/-- '[]byte' to 'string', of a row whose cells hold these bytes. -/
theorem conv_bytes {P : Program} (w : World) (src dst e : TypeId) (a : Addr) (bs : List UInt8) (n cap : Nat) (hn : bs.length = n)
    (hs : P.underlying src = some (.slice e)) (he : P.underlying e = some (.int .u8)) (hd : P.underlying dst = some .string)
    (h : ∀ j b, bs[j]? = some b → w.cell? (a.add j) = some (.int .u8 b.toNat)) :
    (convert src dst (.slice (some a) n cap)).run P w = .ok (.string ⟨bs.toArray⟩) w := by
  subst hn
  rw [run_convert_bytes_string w src dst e _ _ _ hs he hd]
  have hl := run_loadCells_list (P := P) w a (bs.map fun b => Value.int .u8 b.toNat) (fun j v hv => by
    rw [List.getElem?_map] at hv
    obtain ⟨b, hb, rfl⟩ := Option.map_eq_some_iff.1 hv
    exact h j b hb)
  rw [List.length_map] at hl
  have hl2 := run_bytesToString (P := P) w a bs.length cap (bs.map fun b => (b.toNat : Int)) (by rw [hl]; simp)
  rw [hl2]
  congr 2
  have : ∀ (bs : List UInt8) (acc : ByteArray), (bs.map fun b => (b.toNat : Int)).foldl (fun r n => r.push (UInt8.ofNat n.toNat)) acc = ⟨acc.data ++ bs.toArray⟩ := by
    intro bs
    induction bs with
    | nil => intro acc; simp
    | cons b bs ih =>
      intro acc
      simp only [List.map_cons, List.foldl_cons, Int.toNat_natCast, UInt8.ofNat_toNat]
      rw [ih]
      apply congrArg
      simp [ByteArray.push]
  rw [this]
  simp

end Go.Proofs.Ytkjbdldjfjkneaa
