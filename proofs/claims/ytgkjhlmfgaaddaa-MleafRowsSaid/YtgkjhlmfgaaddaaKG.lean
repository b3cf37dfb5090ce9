/- Parts of the frame, one behind the other: KeysM KeysCm KeysT KeysSm KeysUm. (Printed by merge.py.) -/
import Derived.Lib.Bytealg
import Derived.WalkKit
import Derived.Laws.BitsAllLaws
import Derived.Laws.BytesString
import Derived.Test.YtgkjhlmfgaaddaaProg
import Derived.WalkSpells
import Derived.WalkLawsBesides
import Derived.BigQuiet
import Derived.Lib.Hide
import Derived.IntWalk
import Derived.Deep.QuietTactic
import Derived.PlainAid
import Derived.Deep.OwnRows
set_option linter.unusedVariables false
set_option linter.unusedSimpArgs false
section
/- Plain facts on lists of bytes: their order, and how far two are alike. No program in sight. -/
namespace Go.Proofs.Ytgkjhlmfgaaddaa
open Go.Lib (compareBytes)

/-- How far two lists are alike. -/
def com : List UInt8 → List UInt8 → Nat
  | a :: x, b :: y => if a = b then com x y + 1 else 0
  | [], _ => 0
  | _ :: _, [] => 0

theorem com_le_l : ∀ a b, com a b ≤ a.length
  | [], _ => by simp [com]
  | _ :: _, [] => by simp [com]
  | a :: x, b :: y => by
    have := com_le_l x y
    unfold com; split <;> simp <;> omega

theorem com_comm : ∀ a b, com a b = com b a
  | [], [] => rfl
  | [], _ :: _ => by simp [com]
  | _ :: _, [] => by simp [com]
  | a :: x, b :: y => by
    have := com_comm x y
    unfold com
    by_cases h : a = b
    · rw [if_pos h, if_pos h.symm, this]
    · rw [if_neg h, if_neg (fun e => h e.symm)]

theorem com_le_r (a b) : com a b ≤ b.length := by rw [com_comm]; exact com_le_l b a

theorem com_get : ∀ (a b : List UInt8) i, i < com a b → a[i]? = b[i]?
  | [], _, i, h => by simp [com] at h
  | _ :: _, [], i, h => by simp [com] at h
  | a :: x, b :: y, i, h => by
    unfold com at h
    split at h
    · rename_i e
      subst e
      cases i with
      | zero => simp
      | succ i => simpa using com_get x y i (by omega)
    · omega

theorem com_stop : ∀ (a b : List UInt8), com a b < a.length → com a b < b.length → a[com a b]? ≠ b[com a b]?
  | [], _, h, _ => by simp at h
  | _ :: _, [], _, h => by simp at h
  | a :: x, b :: y, h, k => by
    unfold com at h k ⊢
    by_cases e : a = b
    · rw [if_pos e] at h k ⊢
      simpa using com_stop x y (by simpa using h) (by simpa using k)
    · rw [if_neg e]; simpa using e

/-- What is alike so far, and ends or parts there. -/
theorem com_eq (a b : List UInt8) (k : Nat) (ha : k ≤ a.length) (hb : k ≤ b.length) (h : ∀ i, i < k → a[i]? = b[i]?) (he : k = a.length ∨ k = b.length ∨ a[k]? ≠ b[k]?) : com a b = k := by
  rcases Nat.lt_trichotomy (com a b) k with hl | hl | hl
  · exact absurd (h _ hl) (com_stop a b (by omega) (by omega))
  · exact hl
  · have := com_le_l a b
    have := com_le_r a b
    rcases he with he | he | he
    · omega
    · omega
    · exact absurd (com_get a b k hl) he

theorem com_self (a) : com a a = a.length := com_eq a a _ (Nat.le_refl _) (Nat.le_refl _) (fun _ _ => rfl) (.inl rfl)

theorem com_ge (a b : List UInt8) (k : Nat) (ha : k ≤ a.length) (hb : k ≤ b.length) (h : ∀ i, i < k → a[i]? = b[i]?) : k ≤ com a b := by
  rcases Nat.lt_or_ge (com a b) k with hl | hl
  · exact absurd (h _ hl) (com_stop a b (by omega) (by omega))
  · exact hl

theorem com_succ (a b : List UInt8) (k : Nat) (ha : k < a.length) (hb : k < b.length) (hk : k ≤ com a b) (h : a[k]? = b[k]?) : k + 1 ≤ com a b := by
  refine com_ge a b _ (by omega) (by omega) fun i hi => ?_
  rcases Nat.lt_or_ge i k with hl | hl
  · exact com_get a b i (by omega)
  · obtain rfl : i = k := by omega
    exact h

theorem com_take (a b : List UInt8) (k : Nat) (hk : k ≤ com a b) : a.take k = b.take k := by
  refine List.ext_getElem? fun i => ?_
  rw [List.getElem?_take, List.getElem?_take]
  split
  · exact com_get a b i (by omega)
  · rfl

theorem com_trans (a b c : List UInt8) : min (com a b) (com b c) ≤ com a c := by
  have h1 := com_le_l a b
  have h2 := com_le_r b c
  refine com_ge a c _ (by omega) (by omega) fun i hi => ?_
  rw [com_get a b i (by omega), com_get b c i (by omega)]

/-! ### The order -/
theorem lt_cons (a b : UInt8) (x y : List UInt8) : a :: x < b :: y ↔ a < b ∨ a = b ∧ x < y := List.cons_lt_cons_iff

theorem lt_irrefl (a : List UInt8) : ¬ a < a := List.lt_irrefl a
theorem lt_trans {a b c : List UInt8} (h : a < b) (k : b < c) : a < c := List.lt_trans h k
theorem lt_asymm {a b : List UInt8} (h : a < b) : ¬ b < a := fun k => lt_irrefl a (lt_trans h k)
theorem lt_tri : ∀ (a b : List UInt8), a < b ∨ a = b ∨ b < a
  | [], [] => .inr (.inl rfl)
  | [], _ :: _ => .inl (by simp)
  | _ :: _, [] => .inr (.inr (by simp))
  | a :: x, b :: y => by
    have ih := lt_tri x y
    rw [lt_cons, lt_cons]
    by_cases e : a = b
    · subst e
      rcases ih with h | h | h
      · exact .inl (.inr ⟨rfl, h⟩)
      · exact .inr (.inl (by rw [h]))
      · exact .inr (.inr (.inr ⟨rfl, h⟩))
    · rcases Nat.lt_trichotomy a.toNat b.toNat with h | h | h
      · exact .inl (.inl h)
      · exact absurd (UInt8.toNat_inj.1 h) e
      · exact .inr (.inr (.inl h))

theorem cmp_eq_if : ∀ (a b : List UInt8), compareBytes a b = if a < b then -1 else if b < a then 1 else 0
  | [], [] => by simp [compareBytes]
  | [], _ :: _ => by simp [compareBytes]
  | _ :: _, [] => by simp [compareBytes]
  | a :: x, b :: y => by
    have ih := cmp_eq_if x y
    unfold compareBytes
    simp only [lt_cons]
    by_cases h : a < b
    · simp [h]
    · by_cases k : b < a
      · have hn : ¬ a = b := fun e => by subst e; exact h k
        simp [h, k, hn]
      · have e : a = b := UInt8.toNat_inj.1 (by have h' : ¬ a.toNat < b.toNat := h; have k' : ¬ b.toNat < a.toNat := k; omega)
        subst e
        simp [h, ih]

theorem cmp_lt {a b : List UInt8} (h : a < b) : compareBytes a b = -1 := by rw [cmp_eq_if, if_pos h]
theorem cmp_gt {a b : List UInt8} (h : b < a) : compareBytes a b = 1 := by rw [cmp_eq_if, if_neg (lt_asymm h), if_pos h]
theorem cmp_self (a : List UInt8) : compareBytes a a = 0 := by rw [cmp_eq_if, if_neg (lt_irrefl a), if_neg (lt_irrefl a)]

/-- The order, by how far two are alike. -/
theorem lt_com : ∀ (a b : List UInt8), a < b ↔ com a b < b.length ∧ (com a b = a.length ∨ (a[com a b]?.getD 0) < (b[com a b]?.getD 0))
  | [], [] => by simp
  | [], _ :: _ => by simp [com]
  | _ :: _, [] => by simp
  | a :: x, b :: y => by
    have ih := lt_com x y
    rw [lt_cons]
    unfold com
    by_cases e : a = b
    · subst e
      rw [if_pos rfl]
      have hn : ¬ a < a := UInt8.lt_irrefl a
      simp [hn, ih]
    · rw [if_neg e]
      simp [e]


/-- A beginning of one is above the other just if it is long enough. -/
theorem lt_take : ∀ (a b : List UInt8) (n : Nat), a < b.take n ↔ a < b ∧ com a b < n
  | [], [], n => by simp
  | [], _ :: _, 0 => by simp
  | [], _ :: _, _ + 1 => by simp [com]
  | _ :: _, [], n => by simp
  | _ :: _, _ :: _, 0 => by simp
  | a :: x, b :: y, n + 1 => by
    have ih := lt_take x y n
    rw [List.take_succ_cons, lt_cons, lt_cons]
    unfold com
    by_cases e : a = b
    · subst e
      have hn : ¬ a < a := UInt8.lt_irrefl a
      simp [hn, ih]
    · simp [e]

def ltB (a b : List UInt8) : Bool := decide (a < b)
theorem ltB_yes {a b : List UInt8} (h : a < b) : ltB a b = true := by simp [ltB, h]
theorem ltB_no {a b : List UInt8} (h : ¬ a < b) : ltB a b = false := by simp [ltB, h]

/-! ### Slices -/
/-- The first k bytes of a list as a number, the first one the greatest; a byte that is not there is 0. -/
def slNum (l : List UInt8) : Nat → Nat
  | 0 => 0
  | k + 1 => slNum l k * 256 + (l[k]?.getD 0).toNat

theorem slNum_lt (l : List UInt8) : ∀ k, slNum l k < 256 ^ k
  | 0 => by simp [slNum]
  | k + 1 => by
    have := slNum_lt l k
    have := (l[k]?.getD 0).toNat_lt
    rw [slNum, Nat.pow_succ]
    omega

theorem slNum_lt7 (l : List UInt8) (k : Nat) (h : k < 8) : slNum l k < 72057594037927936 := by
  have h1 := slNum_lt l k
  have h2 : 256 ^ k ≤ 256 ^ 7 := Nat.pow_le_pow_right (by omega) (by omega)
  omega
theorem slNum_lt8 (l : List UInt8) : slNum l 8 < 18446744073709551616 := slNum_lt l 8

theorem or_step (x b : Nat) (hx : x < 72057594037927936) (hb : b < 256) : bits .or .u64 ((x : Int) * 256) (IntKind.u64.wrap (b : Int)) = ((x * 256 + b : Nat) : Int) := by
  have e1 : ((x : Int) * 256) = ((x * 256 : Nat) : Int) := by omega
  have e2 : IntKind.u64.wrap (b : Int) = (b : Int) := by rw [IntKind.wrap_u64]; omega
  rw [e1, e2, u64_or_nat _ _ (by omega) (by omega), nat_join 8 _ _ (by omega) (by omega)]

def slIn (l : List UInt8) (i : Int) : Bool := decide (0 ≤ i ∧ 8 * i < l.length)
def sliceN (l : List UInt8) (i : Int) : Nat := if slIn l i then slNum (l.drop (8 * i.toNat)) 8 else 0
def sliceC (l : List UInt8) (i : Int) : Nat := if slIn l i then min (l.length - 8 * i.toNat) 9 else 0
theorem slIn_yes {l : List UInt8} {i : Int} (h : 0 ≤ i ∧ 8 * i < l.length) : slIn l i = true := by simp [slIn, h]
theorem slIn_no {l : List UInt8} {i : Int} (h : i < 0 ∨ l.length ≤ 8 * i) : slIn l i = false := by simp [slIn]; omega

theorem slNum_congr (l m : List UInt8) : ∀ k, (∀ i, i < k → l[i]?.getD 0 = m[i]?.getD 0) → slNum l k = slNum m k
  | 0, _ => rfl
  | k + 1, h => by rw [slNum, slNum, slNum_congr l m k (fun i hi => h i (by omega)), h k (by omega)]


/-! ### The text of a slice -/
/-- Byte number k of a number of eight bytes, the first one the greatest. -/
def ub (n k : Nat) : UInt8 := UInt8.ofNat (n / 2 ^ (8 * (7 - k)) % 256)
theorem ub_toNat (n k : Nat) : (ub n k).toNat = n / 2 ^ (8 * (7 - k)) % 256 := by
  simp [ub]
theorem ub_cast (n k : Nat) : ((ub n k).toNat : Int) = (n : Int) / 2 ^ (8 * (7 - k)) % 256 := by
  rw [ub_toNat]; simp
def unslB (n c : Nat) : List UInt8 := (List.range c).map (ub n)
def unsl (n : Nat) (c : Int) : List UInt8 := if 1 ≤ c ∧ c ≤ 9 then unslB n (min c.toNat 8) else []
theorem unslB_length (n c : Nat) : (unslB n c).length = c := by simp [unslB]
theorem unslB_get (n c j : Nat) (h : j < c) : (unslB n c)[j]? = some (ub n j) := by simp [unslB, h]

/-- A row of c bytes of which the first k have been written. -/
def ubRow (n c k : Nat) : Array Value := ((List.range c).map fun j => if j < k then Value.int .u8 (ub n j).toNat else .int .u8 0).toArray
theorem ubRow_size (n c k : Nat) : (ubRow n c k).size = c := by simp [ubRow]
theorem ubRow_zero (n c : Nat) : madeCells #[Value.int .u8 0] c = ubRow n c 0 := by
  apply Array.toList_inj.1
  rw [toList_madeCells_one, ubRow]
  simp
  rw [List.map_const', List.length_range]
theorem ubRow_get (n c k j : Nat) (h : j < c) : (ubRow n c k)[j]? = some (if j < k then Value.int .u8 (ub n j).toNat else .int .u8 0) := by
  simp [ubRow, h]
theorem ubRow_set (n c k : Nat) : (ubRow n c k).setIfInBounds k (.int .u8 (ub n k).toNat) = ubRow n c (k + 1) := by
  apply Array.ext_getElem?
  intro i
  rw [Array.getElem?_setIfInBounds, ubRow_size]
  by_cases hi : i < c
  · rw [ubRow_get _ _ _ _ hi, ubRow_get _ _ _ _ hi]
    by_cases e : k = i
    · subst e; simp [hi]
    · rw [if_neg e]
      by_cases h : i < k
      · rw [if_pos h, if_pos (by omega)]
      · rw [if_neg h, if_neg (by omega)]
  · have h1 : (ubRow n c k)[i]? = none := by rw [Array.getElem?_eq_none]; rw [ubRow_size]; omega
    have h2 : (ubRow n c (k + 1))[i]? = none := by rw [Array.getElem?_eq_none]; rw [ubRow_size]; omega
    rw [h1, h2]
    split
    · rw [if_neg (by omega)]
    · rfl

/-- '[]byte' to 'string', of a row whose cells hold these bytes. -/
theorem conv_bytes {P : Program} (w : World) (src dst e : TypeId) (a : Addr) (bs : List UInt8) (n cap : Nat) (hn : bs.length = n)
    (hs : P.underlying src = some (.slice e)) (he : P.underlying e = some (.int .u8)) (hd : P.underlying dst = some .string)
    (h : ∀ j b, bs[j]? = some b → w.cell? (a.add j) = some (.int .u8 b.toNat)) :
    (convert src dst (.slice (some a) n cap)).run P w = .ok (.string ⟨bs.toArray⟩) w := by
  subst hn
  rw [run_convert_bytes_string w src dst e _ _ _ hs he hd]
  have hl := run_loadCells_list (P := P) w a (bs.map fun b => Value.int .u8 b.toNat) (fun j v hv => by
    rw [List.getElem?_map] at hv
    obtain ⟨b, hb, rfl⟩ := Option.map_eq_some_iff.1 hv
    exact h j b hb)
  rw [List.length_map] at hl
  have hl2 := run_bytesToString (P := P) w a bs.length cap (bs.map fun b => (b.toNat : Int)) (by rw [hl]; simp)
  rw [hl2]
  congr 2
  have : ∀ (bs : List UInt8) (acc : ByteArray), (bs.map fun b => (b.toNat : Int)).foldl (fun r n => r.push (UInt8.ofNat n.toNat)) acc = ⟨acc.data ++ bs.toArray⟩ := by
    intro bs
    induction bs with
    | nil => intro acc; simp
    | cons b bs ih =>
      intro acc
      simp only [List.map_cons, List.foldl_cons, Int.toNat_natCast, UInt8.ofNat_toNat]
      rw [ih]
      apply congrArg
      simp [ByteArray.push]
  rw [this]
  simp

end Go.Proofs.Ytgkjhlmfgaaddaa
end

section
/- The contracts of the order's functions of layer 1 (keys) and of the document's own: Compare, Common, After, Between; Less, Compare, Common, Between. -/
namespace Go.Proofs.Ytgkjhlmfgaaddaa
open Go.RowKit
open Go.Lib (compareBytes)

theorem ba_get (a : ByteArray) (k : Nat) (h : k < a.size) : a.data.toList[k]? = some a[k] := by
  rw [List.getElem?_eq_getElem (by simpa using h)]; rfl
theorem ba_len (a : ByteArray) : a.data.toList.length = a.size := by simp
theorem neq_yes {a b : ByteArray} {k : Nat} (ha : k < a.size) (hb : k < b.size) (h : ((a[k].toNat : Int) != (b[k].toNat : Int)) = true) : a.data.toList[k]? ≠ b.data.toList[k]? := by
  rw [ba_get a k ha, ba_get b k hb]
  intro e
  have e : a[k] = b[k] := by simpa using e
  simp [e] at h
theorem neq_no {a b : ByteArray} {k : Nat} (ha : k < a.size) (hb : k < b.size) (h : ((a[k].toNat : Int) != (b[k].toNat : Int)) = false) : a.data.toList[k]? = b.data.toList[k]? := by
  have e : (a[k].toNat : Int) = (b[k].toNat : Int) := by simpa using h
  have e : a[k] = b[k] := UInt8.toNat_inj.1 (by omega)
  rw [ba_get a k ha, ba_get b k hb, e]
theorem less_eq (x y : List UInt8) : Op.bytesLess x y = decide (x < y) := by
  induction x generalizing y with
  | nil => cases y <;> simp [Op.bytesLess]
  | cons a x ih =>
    cases y with
    | nil => simp [Op.bytesLess]
    | cons b y => rw [Op.bytesLess, ih, Bool.eq_iff_iff]; simp [lt_cons]
theorem ret_i64 {a b : Int} (h : a = b) : Ending.returned (.int .i64 a) = .returned (.int .i64 b) := by rw [h]
theorem ret_bool {a b : Bool} (h : a = b) : Ending.returned (.bool a) = .returned (.bool b) := by rw [h]
end Go.Proofs.Ytgkjhlmfgaaddaa
end

section
/- Plain facts on slices: a text is its slices' texts; two texts stand as their first slices and classes do, and, where these are alike, as their rests. -/
namespace Go.Proofs.Ytgkjhlmfgaaddaa
open Go.Lib (compareBytes)

theorem slNum_div (l : List UInt8) (j : Nat) : ∀ m, slNum l (j + m) / 256 ^ m = slNum l j
  | 0 => by simp
  | m + 1 => by
    have ih := slNum_div l j m
    have hb := (l[j + m]?.getD 0).toNat_lt
    rw [← Nat.add_assoc, slNum, Nat.pow_succ', ← Nat.div_div_eq_div_mul]
    rw [show (slNum l (j + m) * 256 + (l[j + m]?.getD 0).toNat) / 256 = slNum l (j + m) by omega, ih]

theorem ub_slNum (l : List UInt8) (k : Nat) (hk : k < 8) : ub (slNum l 8) k = l[k]?.getD 0 := by
  apply UInt8.toNat_inj.1
  have hb := (l[k]?.getD 0).toNat_lt
  have h := slNum_div l (k + 1) (7 - k)
  rw [show k + 1 + (7 - k) = 8 by omega] at h
  rw [ub_toNat, Nat.pow_mul, show (2 : Nat) ^ 8 = 256 by rfl, h, slNum]
  omega

/-- The text of a slice is the bytes that it was made of. -/
theorem unslB_slNum (l : List UInt8) (c : Nat) (hc : c ≤ 8) (hl : c ≤ l.length) : unslB (slNum l 8) c = l.take c := by
  apply List.ext_getElem?
  intro i
  by_cases hi : i < c
  · rw [unslB_get _ _ _ hi, ub_slNum _ _ (by omega), List.getElem?_take, if_pos hi, List.getElem?_eq_getElem (by omega)]
    rfl
  · rw [List.getElem?_eq_none (by rw [unslB_length]; omega), List.getElem?_take, if_neg hi]

theorem slNum_mono (a b : List UInt8) (k : Nat) (h : slNum a k < slNum b k) : ∀ m, slNum a (k + m) < slNum b (k + m)
  | 0 => h
  | m + 1 => by
    have ih := slNum_mono a b k h m
    have h1 := (a[k + m]?.getD 0).toNat_lt
    rw [← Nat.add_assoc, slNum, slNum]
    omega
theorem slNum_lt_of (a b : List UInt8) (k : Nat) (hk : k < 8) (he : ∀ i, i < k → a[i]?.getD 0 = b[i]?.getD 0) (h : a[k]?.getD 0 < b[k]?.getD 0) : slNum a 8 < slNum b 8 := by
  have h1 : slNum a (k + 1) < slNum b (k + 1) := by
    rw [slNum, slNum, slNum_congr a b k he]
    have : (a[k]?.getD 0).toNat < (b[k]?.getD 0).toNat := h
    omega
  have := slNum_mono a b (k + 1) h1 (7 - k)
  rwa [show k + 1 + (7 - k) = 8 by omega] at this
theorem slNum_le_of (a b : List UInt8) : ∀ k, (∀ i, i < k → (a[i]?.getD 0).toNat ≤ (b[i]?.getD 0).toNat) → slNum a k ≤ slNum b k
  | 0, _ => Nat.le_refl _
  | k + 1, h => by
    have ih := slNum_le_of a b k (fun i hi => h i (by omega))
    have := h k (by omega)
    rw [slNum, slNum]; omega

theorem cmp_drop : ∀ (a b : List UInt8) (k : Nat), k ≤ com a b → compareBytes a b = compareBytes (a.drop k) (b.drop k)
  | _, _, 0, _ => by simp
  | [], _, k + 1, h => by simp [com] at h
  | _ :: _, [], k + 1, h => by simp [com] at h
  | a :: x, b :: y, k + 1, h => by
    unfold com at h
    by_cases e : a = b
    · subst e
      rw [if_pos rfl] at h
      rw [List.drop_succ_cons, List.drop_succ_cons, ← cmp_drop x y k (by omega)]
      have hn : ¬ a < a := UInt8.lt_irrefl a
      conv => lhs; unfold compareBytes
      rw [if_neg hn, if_neg hn]
    · rw [if_neg e] at h; omega

/-- How two first slices and classes, and the rests, stand. -/
def cutWant (n m p q : Nat) (r : Int) : Int :=
  if n < m then -1 else if m < n then 1 else if p < q then -1 else if q < p then 1 else if p = 9 then r else 0

theorem cut_pre (a b : List UInt8) (hk : com a b < 8) (ha : com a b = a.length) (hb : a.length < b.length) (r : Int) :
    cutWant (slNum a 8) (slNum b 8) (min a.length 9) (min b.length 9) r = -1 ∧ cutWant (slNum b 8) (slNum a 8) (min b.length 9) (min a.length 9) r = 1 := by
  have hle : slNum a 8 ≤ slNum b 8 := slNum_le_of a b 8 fun i hi => by
    by_cases h : i < com a b
    · rw [com_get a b i h]; exact Nat.le_refl _
    · rw [List.getElem?_eq_none (by omega : a.length ≤ i)]; simp
  unfold cutWant
  constructor
  · by_cases h : slNum a 8 < slNum b 8
    · rw [if_pos h]
    · rw [if_neg h, if_neg (by omega), if_pos (by omega)]
  · rw [if_neg (by omega)]
    by_cases h : slNum a 8 < slNum b 8
    · rw [if_pos h]
    · rw [if_neg h, if_neg (by omega), if_pos (by omega)]

theorem lt_of_pre (a b : List UInt8) (ha : com a b = a.length) (hb : a.length < b.length) : a < b := (lt_com a b).2 ⟨by omega, .inl ha⟩

theorem cut_cmp (a b : List UInt8) : compareBytes a b = cutWant (slNum a 8) (slNum b 8) (min a.length 9) (min b.length 9) (compareBytes (a.drop 8) (b.drop 8)) := by
  have h1 := com_le_l a b
  have h2 := com_le_r a b
  by_cases hk : com a b < 8
  · by_cases ha : com a b = a.length
    · by_cases hb : com a b = b.length
      · have e : a = b := by
          have := com_take a b (com a b) (Nat.le_refl _)
          rwa [List.take_of_length_le (by omega), List.take_of_length_le (by omega)] at this
        subst e
        rw [cmp_self]
        unfold cutWant
        simp
        omega
      · rw [(cut_pre a b hk ha (by omega) _).1, cmp_lt (lt_of_pre a b ha (by omega))]
    · by_cases hb : com a b = b.length
      · have hc := com_comm a b
        rw [(cut_pre b a (by omega) (by omega) (by omega) _).2, cmp_gt (lt_of_pre b a (by omega) (by omega))]
      · have hne := com_stop a b (by omega) (by omega)
        have he : ∀ i, i < com a b → a[i]?.getD 0 = b[i]?.getD 0 := fun i hi => by rw [com_get a b i hi]
        have hd : a[com a b]?.getD 0 ≠ b[com a b]?.getD 0 := by
          rw [List.getElem?_eq_getElem (by omega), List.getElem?_eq_getElem (by omega)] at hne ⊢
          simpa using hne
        rcases Nat.lt_trichotomy (a[com a b]?.getD 0).toNat (b[com a b]?.getD 0).toNat with h | h | h
        · have hn := slNum_lt_of a b _ hk he h
          unfold cutWant
          rw [if_pos hn, cmp_lt ((lt_com a b).2 ⟨by omega, .inr h⟩)]
        · exact absurd (UInt8.toNat_inj.1 h) hd
        · have hn := slNum_lt_of b a _ hk (fun i hi => (he i hi).symm) h
          unfold cutWant
          rw [if_neg (by omega), if_pos hn]
          exact cmp_gt ((lt_com b a).2 ⟨by rw [com_comm]; omega, .inr (by rw [com_comm]; exact h)⟩)
  · have hn : slNum a 8 = slNum b 8 := slNum_congr a b 8 fun i hi => by rw [com_get a b i (by omega)]
    rw [cmp_drop a b 8 (by omega)]
    unfold cutWant
    rw [if_neg (by omega), if_neg (by omega)]
    by_cases h : min a.length 9 < min b.length 9
    · rw [if_pos h, List.drop_of_length_le (by omega : a.length ≤ 8)]
      cases hd : b.drop 8 with
      | nil => have := congrArg List.length hd; simp at this; omega
      | cons => rfl
    · by_cases h' : min b.length 9 < min a.length 9
      · rw [if_neg h, if_pos h', List.drop_of_length_le (by omega : b.length ≤ 8)]
        cases hd : a.drop 8 with
        | nil => have := congrArg List.length hd; simp at this; omega
        | cons => rfl
      · rw [if_neg h, if_neg h']
        by_cases h9 : min a.length 9 = 9
        · rw [if_pos h9]
        · rw [if_neg h9, List.drop_of_length_le (by omega : a.length ≤ 8), List.drop_of_length_le (by omega : b.length ≤ 8)]
          rfl

theorem sliceN_zero (l : List UInt8) : sliceN l 0 = slNum l 8 := by
  unfold sliceN
  by_cases h : slIn l 0 = true
  · rw [if_pos h]; simp
  · rw [if_neg h]
    have : l = [] := by
      simp [slIn] at h
      exact h
    subst this
    rfl
theorem sliceC_zero (l : List UInt8) : sliceC l 0 = min l.length 9 := by
  unfold sliceC
  by_cases h : slIn l 0 = true
  · rw [if_pos h]; simp
  · rw [if_neg h]
    have : l = [] := by
      simp [slIn] at h
      exact h
    subst this
    rfl
end Go.Proofs.Ytgkjhlmfgaaddaa
end

section
/- The contracts of slices of layer 1 (keys) and of the document's own: Slice, Unslice. -/
namespace Go.Proofs.Ytgkjhlmfgaaddaa
open Go.RowKit

theorem ext_get (s : ByteArray) (a q : Nat) (h : q < (s.extract a s.size).size) : (s.data.toList.drop a)[q]?.getD 0 = (s.extract a s.size)[q] := by
  have hz : (s.extract a s.size).size = s.size - a := by simp [ByteArray.size_extract]
  have e : (s.extract a s.size)[q] = s[a + q]'(by omega) := by simp [ByteArray.getElem_extract]
  rw [e, List.getElem?_drop, ba_get _ _ (by omega)]
  rfl

set_option maxHeartbeats 400000 in
theorem slice_no (s : ByteArray) (i : Int) (w : World) (hs : s.size ≤ 140737488351232) (hi : i < 0 ∨ s.size ≤ 8 * i) :
    Calls Try.prog 52 #[.string s, .int .i64 i] w fun e w' => e = .returned (.tuple #[.int .u64 0, .int .i64 0]) ∧ w = w' := by
  rcases (show i < 0 ∨ (0 ≤ i ∧ s.size / 8 < i) ∨ (0 ≤ i ∧ i ≤ s.size / 8 ∧ s.size ≤ 8 * i) from by omega) with h | ⟨h, k⟩ | ⟨h, k, m⟩
  all_goals
    clear hi
    go_enter Try.func52, Try.ntmps52
    go_wp2
    go_ret2
    exact ⟨rfl, rfl⟩

set_option maxHeartbeats 400000 in
theorem slice_yes (s : ByteArray) (i : Nat) (w : World) (hs : s.size ≤ 140737488351232) (hi : 8 * i < s.size) :
    Calls Try.prog 52 #[.string s, .int .i64 i] w fun e w' => e = .returned (.tuple #[.int .u64 (slNum (s.data.toList.drop (8 * i)) 8), .int .i64 (min (s.size - 8 * i) 9 : Nat)]) ∧ w = w' := by
  go_enter Try.func52, Try.ntmps52
  go_wp2
  go_loop [4, 6, 27] (fun n j k => ∃ (q : Nat), q ≤ 8 ∧ k = .int .i64 q ∧ n = .int .u64 (slNum (s.data.toList.drop (8 * i)) q)) (fun _ _ k => 8 - (intOf k).toNat)
  case atStart => exact ⟨0, by omega, rfl, rfl⟩
  case round =>
    obtain ⟨q, hq, rfl, rfl⟩ := hrel
    by_cases hq8 : q < 8
    · have hx := slNum_lt7 (s.data.toList.drop (8 * i)) q hq8
      by_cases hk : 8 * i + q < s.size
      · have HE := Lib.hid (ext_get s (8 * i) q (by simp [ByteArray.size_extract]; omega))
        go_wp2
        go_round
        case rel =>
          refine ⟨q + 1, by omega, by go_num, ?_⟩
          have hc : i * 8 = 8 * i := by omega
          rw [or_step _ _ hx (UInt8.toNat_lt _), slNum, HE.out]
          simp only [hc]
        case measure => simp [intOf]; omega
      · have HE : Hid ((s.data.toList.drop (8 * i))[q]?.getD 0 = 0) := by
          have : (s.data.toList.drop (8 * i))[q]? = none := by rw [List.getElem?_eq_none]; simp; omega
          exact Lib.hid (by rw [this]; rfl)
        go_wp2
        go_round
        case rel =>
          refine ⟨q + 1, by omega, by go_num, ?_⟩
          rw [slNum, HE.out]
          simp
        case measure => simp [intOf]; omega
    · obtain rfl : q = 8 := by omega
      have hc : i * 8 = 8 * i := by omega
      rcases (show (s.size - 8 * i ≤ 9) ∨ (9 < s.size - 8 * i) from by omega) with h9 | h9
      · go_wp2
        go_ret2
        exact ⟨rfl, rfl⟩
      · have HE : Hid (min (s.size - 8 * i) 9 = 9) := Lib.hid (by omega)
        go_wp2
        rw [HE.out]
        go_ret2
        exact ⟨rfl, rfl⟩

set_option maxHeartbeats 400000 in
theorem rslice_no (s : ByteArray) (i : Int) (w : World) (hs : s.size ≤ 140737488351232) (hi : i < 0 ∨ s.size ≤ 8 * i) :
    Calls Try.prog 28 #[.string s, .int .i64 i] w fun e w' => e = .returned (.tuple #[.int .u64 0, .int .i64 0]) ∧ w = w' := by
  rcases (show i < 0 ∨ (0 ≤ i ∧ s.size < i) ∨ (0 ≤ i ∧ i ≤ s.size ∧ s.size ≤ 8 * i) from by omega) with h | ⟨h, k⟩ | ⟨h, k, m⟩
  all_goals
    clear hi
    go_enter Try.func28, Try.ntmps28
    go_wp2
    go_ret2
    exact ⟨rfl, rfl⟩

theorem drop_get (s : ByteArray) (a q : Nat) (h : a + q < s.size) : (s.data.toList.drop a)[q]?.getD 0 = s[a + q] := by
  rw [List.getElem?_drop, ba_get _ _ h]
  rfl

theorem u64_byte (b : UInt8) : IntKind.u64.wrap (b.toNat : Int) = (b.toNat : Int) := by
  have := b.toNat_lt
  rw [IntKind.wrap_u64]; omega

set_option maxHeartbeats 400000 in
theorem rslice_yes (s : ByteArray) (i : Nat) (w : World) (hs : s.size ≤ 140737488351232) (hi : 8 * i < s.size) :
    Calls Try.prog 28 #[.string s, .int .i64 i] w fun e w' => e = .returned (.tuple #[.int .u64 (slNum (s.data.toList.drop (8 * i)) 8), .int .i64 (min (s.size - 8 * i) 9 : Nat)]) ∧ w = w' := by
  have d1 : decide ((i : Int) < 0) = false := by simp
  have d2 : decide (s.size < i) = false := by simp; omega
  have d3 : decide ((s.size : Int) ≤ 8 * (i : Int)) = false := by simp; omega
  go_enter Try.func28, Try.ntmps28
  go_wp2
  go_loop [6, 7] (fun n k => ∃ (q : Nat), q ≤ 8 ∧ k = .int .i64 ((8 * i + q : Nat) : Int) ∧ n = .int .u64 (slNum (s.data.toList.drop (8 * i)) q)) (fun _ k => 8 * i + 8 - (intOf k).toNat)
  case atStart => exact ⟨0, by omega, by go_num, rfl⟩
  case round =>
    obtain ⟨q, hq, rfl, rfl⟩ := hrel
    by_cases hq8 : q < 8
    · have hx := slNum_lt7 (s.data.toList.drop (8 * i)) q hq8
      by_cases hk : 8 * i + q < s.size
      · have HE := Lib.hid (drop_get s (8 * i) q hk)
        go_wp2
        go_round
        case rel =>
          refine ⟨q + 1, by omega, by go_num, ?_⟩
          have hb := (s[8 * i + q]).toNat_lt
          rw [slNum, HE.out, u64_byte, IntKind.wrap_u64]
          congr 1
          omega
        case measure => simp [intOf]; omega
      · have HE : Hid ((s.data.toList.drop (8 * i))[q]?.getD 0 = 0) := by
          have : (s.data.toList.drop (8 * i))[q]? = none := by rw [List.getElem?_eq_none]; simp; omega
          exact Lib.hid (by rw [this]; rfl)
        go_wp2
        go_round
        case rel =>
          refine ⟨q + 1, by omega, by go_num, ?_⟩
          rw [slNum, HE.out]
          simp
        case measure => simp [intOf]; omega
    · obtain rfl : q = 8 := by omega
      rcases (show (s.size - 8 * i ≤ 9) ∨ (9 < s.size - 8 * i) from by omega) with h9 | h9
      · have HE : Hid ((s.size : Int) - 8 * (i : Int) = ((min (s.size - 8 * i) 9 : Nat) : Int)) := Lib.hid (by omega)
        go_wp2
        go_ret2
        exact ⟨by simp; omega, rfl⟩
      · have HE : Hid (min (s.size - 8 * i) 9 = 9) := Lib.hid (by omega)
        go_wp2
        rw [HE.out]
        go_ret2
        exact ⟨rfl, rfl⟩

/-- Slice: whatever text and number. -/
theorem slice_any (s : ByteArray) (i : Int) (w : World) (hs : s.size ≤ 140737488351232) :
    Calls Try.prog 52 #[.string s, .int .i64 i] w fun e w' => e = .returned (.tuple #[.int .u64 (sliceN s.data.toList i), .int .i64 (sliceC s.data.toList i)]) ∧ w = w' := by
  by_cases h : 0 ≤ i ∧ 8 * i < s.size
  · obtain ⟨k, rfl⟩ : ∃ k : Nat, i = k := ⟨i.toNat, by omega⟩
    have hin : slIn s.data.toList (k : Int) = true := slIn_yes (by rw [ba_len]; exact h)
    rw [sliceN, sliceC, if_pos hin, if_pos hin]
    simp only [ba_len, Int.toNat_natCast]
    exact slice_yes s k w hs (by omega)
  · have hin : slIn s.data.toList i = false := slIn_no (by rw [ba_len]; omega)
    rw [sliceN, sliceC, if_neg (by rw [hin]; decide), if_neg (by rw [hin]; decide)]
    exact slice_no s i w hs (by omega)
theorem rslice_any (s : ByteArray) (i : Int) (w : World) (hs : s.size ≤ 140737488351232) :
    Calls Try.prog 28 #[.string s, .int .i64 i] w fun e w' => e = .returned (.tuple #[.int .u64 (sliceN s.data.toList i), .int .i64 (sliceC s.data.toList i)]) ∧ w = w' := by
  by_cases h : 0 ≤ i ∧ 8 * i < s.size
  · obtain ⟨k, rfl⟩ : ∃ k : Nat, i = k := ⟨i.toNat, by omega⟩
    have hin : slIn s.data.toList (k : Int) = true := slIn_yes (by rw [ba_len]; exact h)
    rw [sliceN, sliceC, if_pos hin, if_pos hin]
    simp only [ba_len, Int.toNat_natCast]
    exact rslice_yes s k w hs (by omega)
  · have hin : slIn s.data.toList i = false := slIn_no (by rw [ba_len]; omega)
    rw [sliceN, sliceC, if_neg (by rw [hin]; decide), if_neg (by rw [hin]; decide)]
    exact rslice_no s i w hs (by omega)
end Go.Proofs.Ytgkjhlmfgaaddaa
end

section
/- The contracts of Unslice, of layer 1 (keys) and of the document's own. -/
namespace Go.Proofs.Ytgkjhlmfgaaddaa
open Go.RowKit Go.Deep
set_option maxRecDepth 8000
set_option linter.unusedVariables false

theorem Try.infoU8 : (Try.prog.info? 5).map (fun i => (i.zero, i.size, i.bytes)) = some (some (.int .u8 0), 1, 1) := by kernel_rfl
set_option maxHeartbeats 400000 in
theorem unslice_no (n c : Int) (w : World) (hc : c < 1 ∨ 9 < c) :
    Calls Try.prog 53 #[.int .u64 n, .int .i64 c] w fun e w' => e = .returned (.string ⟨#[]⟩) ∧ w = w' := by
  rcases hc with h | h
  all_goals
    go_enter Try.func53, Try.ntmps53
    go_wp2
    go_ret
    exact ⟨rfl, rfl⟩

theorem ubRow_cell (w : World) (n c k j : Nat) (t : TypeId) (hj : j < c) : (w.alloc (.cells (ubRow n c k) t)).cell? ⟨w.heap.size, j, none⟩ = some (if j < k then Value.int .u8 (ub n j).toNat else .int .u8 0) := by
  rw [← ubRow_get n c k j hj]; simp [go_sem]

theorem ubRow_conv (w : World) (n c cap : Nat) (src dst e : TypeId) (hs : Try.prog.underlying src = some (.slice e)) (he : Try.prog.underlying e = some (.int .u8)) (hd : Try.prog.underlying dst = some .string) :
    (convert src dst (.slice (some ⟨w.heap.size, 0, none⟩) c cap)).run Try.prog (w.alloc (.cells (ubRow n c c) e)) = .ok (.string ⟨(unslB n c).toArray⟩) (w.alloc (.cells (ubRow n c c) e)) := by
  refine conv_bytes _ src dst e _ (unslB n c) c cap (unslB_length n c) hs he hd fun j b hb => ?_
  have hj : j < c := by rcases Nat.lt_or_ge j c with h | h; exact h; rw [List.getElem?_eq_none (by rw [unslB_length]; omega)] at hb; cases hb
  rw [unslB_get _ _ _ hj] at hb
  obtain rfl := Option.some.inj hb
  have := ubRow_cell w n c c j e hj
  rw [if_pos hj] at this
  have hadd : (⟨w.heap.size, 0, none⟩ : Addr).add j = ⟨w.heap.size, j, none⟩ := by unfold Addr.add; split <;> simp_all
  rw [hadd]
  exact this

set_option maxHeartbeats 400000 in
theorem unslice_yes (n c d : Nat) (w : World) (hn : n < 18446744073709551616) (h1 : 1 ≤ c) (h9 : c ≤ 9) (hd : (c < 8 ∧ d = c) ∨ (8 ≤ c ∧ d = 8)) :
    Calls Try.prog 53 #[.int .u64 n, .int .i64 c] w fun e w' => e = .returned (.string ⟨(unslB n d).toArray⟩) ∧ Below w.heap.size w w' := by
  have hmk := run_make_row' (P := Try.prog) 96 5 (.int .u8 0) 1 Try.underlying96 Try.infoU8 rfl .i64 .i64 d (by omega) (by omega)
  rw [ubRow_zero n d] at hmk
  have hcv := ubRow_conv w n d d 96 9 5 Try.underlying96 Try.underlying5 Try.underlying9
  have d1 : decide ((c : Int) < 1) = false := by simp; omega
  have d2 : decide (9 < (c : Int)) = false := by simp; omega
  obtain ⟨D, hD⟩ : ∃ D : Int, D = d := ⟨_, rfl⟩
  rw [← hD] at hmk
  rcases hd with ⟨h8, rfl⟩ | ⟨h8, rfl⟩
  · subst hD
    go_enter Try.func53, Try.ntmps53
    go_wp2
    go_loopw [18] (fun i wr => ∃ k : Nat, k ≤ d ∧ i = .int .i64 k ∧ wr = w.alloc (.cells (ubRow n d k) 5)) (fun i _ => d - (intOf i).toNat)
    case atStart => exact ⟨0, by omega, rfl, rfl⟩
    case round =>
      obtain ⟨k, hk, rfl, rfl⟩ := hrel
      by_cases hlt : k < d
      · have hv := ubRow_cell w n d k k 5 hlt
        rw [if_neg (by omega)] at hv
        go_wp2
        go_roundw
        case rel => exact ⟨k + 1, by omega, by go_num, by rw [← ub_cast, ubRow_set]⟩
        case measure => simp [intOf]; omega
      · obtain rfl : k = d := by omega
        go_wp2
        go_ret
        exact ⟨rfl, (Below.refl _ _).alloc (Nat.le_refl _) _⟩
  · obtain rfl : D = 8 := hD
    obtain rfl | rfl : c = 8 ∨ c = 9 := by omega
    all_goals
      go_enter Try.func53, Try.ntmps53
      go_wp2
      go_loopw [18] (fun i wr => ∃ k : Nat, k ≤ 8 ∧ i = .int .i64 k ∧ wr = w.alloc (.cells (ubRow n 8 k) 5)) (fun i _ => 8 - (intOf i).toNat)
      case atStart => exact ⟨0, by omega, rfl, rfl⟩
      case round =>
        obtain ⟨k, hk, rfl, rfl⟩ := hrel
        by_cases hlt : k < 8
        · have hv := ubRow_cell w n 8 k k 5 hlt
          rw [if_neg (by omega)] at hv
          go_wp2
          go_roundw
          case rel => exact ⟨k + 1, by omega, by go_num, by rw [← ub_cast, ubRow_set]⟩
          case measure => simp [intOf]; omega
        · obtain rfl : k = 8 := by omega
          go_wp2
          go_ret
          exact ⟨rfl, (Below.refl _ _).alloc (Nat.le_refl _) _⟩

/-- A row of eight bytes of which the last m have been written. -/
def rbRow (n m : Nat) : Array Value := ((List.range 8).map fun j => if 8 - m ≤ j then Value.int .u8 (ub n j).toNat else .int .u8 0).toArray
theorem rbRow_size (n m : Nat) : (rbRow n m).size = 8 := by simp [rbRow]
theorem rbRow_zero (n : Nat) : madeCells #[Value.int .u8 0] 8 = rbRow n 0 := by
  apply Array.toList_inj.1
  rw [toList_madeCells_one, rbRow]
  rfl
theorem rbRow_get (n m j : Nat) (h : j < 8) : (rbRow n m)[j]? = some (if 8 - m ≤ j then Value.int .u8 (ub n j).toNat else .int .u8 0) := by
  simp [rbRow, h]
theorem rbRow_set (n m k : Nat) (hk : k + m = 7) : (rbRow n m).setIfInBounds k (.int .u8 (ub n k).toNat) = rbRow n (m + 1) := by
  apply Array.ext_getElem?
  intro i
  rw [Array.getElem?_setIfInBounds, rbRow_size]
  by_cases hi : i < 8
  · rw [rbRow_get _ _ _ hi, rbRow_get _ _ _ hi]
    by_cases e : k = i
    · subst e; rw [if_pos rfl, if_pos hi, if_pos (by omega)]
    · rw [if_neg e]
      by_cases h : 8 - m ≤ i
      · rw [if_pos h, if_pos (by omega)]
      · rw [if_neg h, if_neg (by omega)]
  · have h1 : (rbRow n m)[i]? = none := by rw [Array.getElem?_eq_none]; rw [rbRow_size]; omega
    have h2 : (rbRow n (m + 1))[i]? = none := by rw [Array.getElem?_eq_none]; rw [rbRow_size]; omega
    rw [h1, h2]
    split
    · rw [if_neg (by omega)]
    · rfl
theorem rbRow_cell (w : World) (n m j : Nat) (t : TypeId) (hj : j < 8) : (w.alloc (.cells (rbRow n m) t)).cell? ⟨w.heap.size, j, none⟩ = some (if 8 - m ≤ j then Value.int .u8 (ub n j).toNat else .int .u8 0) := by
  rw [← rbRow_get n m j hj]; simp [go_sem]
theorem unslice_any (n : Nat) (c : Int) (w : World) (hn : n < 18446744073709551616) :
    Calls Try.prog 53 #[.int .u64 n, .int .i64 c] w fun e w' => e = .returned (.string ⟨(unsl n c).toArray⟩) ∧ Below w.heap.size w w' := by
  by_cases h : 1 ≤ c ∧ c ≤ 9
  · obtain ⟨k, rfl⟩ : ∃ k : Nat, c = k := ⟨c.toNat, by omega⟩
    rw [unsl, if_pos h]
    exact unslice_yes n k (min k 8) w hn (by omega) (by omega) (by omega)
  · rw [unsl, if_neg h]
    exact (unslice_no n c w (by omega)).mono fun e w' ⟨he, hw⟩ => ⟨he, hw ▸ Below.refl _ _⟩
end Go.Proofs.Ytgkjhlmfgaaddaa
end
