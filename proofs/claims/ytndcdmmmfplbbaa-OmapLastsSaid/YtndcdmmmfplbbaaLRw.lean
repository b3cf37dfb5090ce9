/- Rows of things in boxes, with room behind them: plain; what a slice's variable has. -/
import Derived.Test.YtndcdmmmfplbbaaLGc
set_option linter.unusedVariables false
set_option linter.unusedSimpArgs false
namespace Go.Proofs.Ytndcdmmmfplbbaa.LF
open Go.RowKit
set_option linter.unusedVariables false

section
variable {α : Type} {f : α → List LV} {z : Nat}
def cellsR (f : α → List LV) (l : List α) : List LV := (l.map f).flatten
theorem cellsR_nil : cellsR f [] = [] := rfl
theorem cellsR_cons (x : α) (l : List α) : cellsR f (x :: l) = f x ++ cellsR f l := rfl
theorem cellsR_append (l m : List α) : cellsR f (l ++ m) = cellsR f l ++ cellsR f m := by simp [cellsR]
theorem cellsR_one (x : α) : cellsR f [x] = f x := by simp [cellsR]
theorem cellsR_length (hz : ∀ x, (f x).length = z) : ∀ (l : List α), (cellsR f l).length = l.length * z
  | [] => by simp [cellsR_nil]
  | x :: l => by rw [cellsR_cons, List.length_append, hz, cellsR_length hz l, List.length_cons, Nat.add_mul, Nat.one_mul, Nat.add_comm]
theorem cellsR_split (l : List α) (n : Nat) : cellsR f l = cellsR f (l.take n) ++ cellsR f (l.drop n) := by rw [← cellsR_append, List.take_append_drop]
theorem cellsR_take (hz : ∀ x, (f x).length = z) (l : List α) {n : Nat} (hn : n ≤ l.length) : (cellsR f l).take (n * z) = cellsR f (l.take n) := by
  rw [cellsR_split l n, List.take_left' (by rw [cellsR_length hz, List.length_take, Nat.min_eq_left hn])]
theorem cellsR_drop (hz : ∀ x, (f x).length = z) (l : List α) {n : Nat} (hn : n ≤ l.length) : (cellsR f l).drop (n * z) = cellsR f (l.drop n) := by
  rw [cellsR_split l n, List.drop_left' (by rw [cellsR_length hz, List.length_take, Nat.min_eq_left hn])]
theorem cellsR_part (hz : ∀ x, (f x).length = z) (l : List α) (rest : List LV) {n : Nat} (hn : n ≤ l.length) : ((cellsR f l ++ rest).drop (n * z)).take ((l.length - n) * z) = cellsR f (l.drop n) := by
  have h1 : n * z ≤ (cellsR f l).length := by rw [cellsR_length hz]; exact Nat.mul_le_mul_right _ hn
  rw [List.drop_append_of_le_length h1, cellsR_drop hz l hn, List.take_left' (by rw [cellsR_length hz, List.length_drop])]
theorem cellsR_at (hz : ∀ x, (f x).length = z) (l : List α) (rest : List LV) {n : Nat} (hn : n < l.length) : (cellsR f l ++ rest).drop (n * z) = f l[n] ++ (cellsR f (l.drop (n + 1)) ++ rest) := by
  have h1 : n * z ≤ (cellsR f l).length := by rw [cellsR_length hz]; exact Nat.mul_le_mul_right _ (Nat.le_of_lt hn)
  rw [List.drop_append_of_le_length h1, cellsR_drop hz l (Nat.le_of_lt hn), List.drop_eq_getElem_cons hn, cellsR_cons, List.append_assoc]

theorem splice_at {A B B' C : List LV} {off : Nat} (ho : off = A.length) (hb : B'.length = B.length) : splice (A ++ B ++ C) off B' = A ++ B' ++ C := by
  subst ho
  unfold splice
  rw [List.append_assoc A B C, List.take_left, ← List.append_assoc, List.drop_left' (by rw [List.length_append, hb])]

/-- A row in a box: the things, then room. -/
structure RowIn (f : α → List LV) (z : Nat) (S : LS) (r : Nat) (l : List α) (c : Nat) (rest : List LV) : Prop where
  box : S.box r = some (cellsR f l ++ rest)
  room : rest.length = (c - l.length) * z
  cap : l.length ≤ c

theorem RowIn.len {S : LS} {r c : Nat} {l : List α} {rest : List LV} (hz : ∀ x, (f x).length = z) (h : RowIn f z S r l c rest) : (cellsR f l ++ rest).length = c * z := by
  rw [List.length_append, cellsR_length hz, h.room, ← Nat.add_mul]
  congr 1
  have := h.cap
  omega

/-- What a slice's variable has. -/
inductive SlAt (f : α → List LV) (z : Nat) (S : LS) : LV → List α → Prop
  | nil : SlAt f z S (.sl .nil []) []
  | row (r c : Nat) (l : List α) (rest : List LV) (h : RowIn f z S r l c rest) : SlAt f z S (rsl r 0 l.length c) l

/-- Where its row is. -/
def blockOf : LV → Option Nat
  | .v (.slice (some a) _ _) => some a.block
  | _ => none

/-- From one memory to a later one: a slice's variable was written anew; other boxes stay, and stay apart. -/
structure Mv (S : LS) (X : LV) (S' : LS) (X' : LV) : Prop where
  box : ∀ b cs, S.box b = some cs → blockOf X ≠ some b → S'.box b = some cs ∧ blockOf X' ≠ some b
  row : ∀ b x, S.row b = some x → S'.row b = some x
  obj : ∀ b x, S.obj b = some x → S'.obj b = some x
  top : S.top ≤ S'.top

theorem Mv.refl (S : LS) (X : LV) : Mv S X S X := ⟨fun b cs h k => ⟨h, k⟩, fun _ _ h => h, fun _ _ h => h, Nat.le_refl _⟩
theorem Mv.trans {S S' S'' : LS} {X X' X'' : LV} (h : Mv S X S' X') (k : Mv S' X' S'' X'') : Mv S X S'' X'' :=
  ⟨fun b cs hb hx => k.box b cs (h.box b cs hb hx).1 (h.box b cs hb hx).2, fun b x hb => k.row b x (h.row b x hb), fun b x hb => k.obj b x (h.obj b x hb), Nat.le_trans h.top k.top⟩
theorem Mv.grow {S S' : LS} {X : LV} {r : Nat} (h : S.le S') (hr : S.fresh r) (n c : Nat) : Mv S X S' (rsl r 0 n c) :=
  ⟨fun b cs hb _ => ⟨h.box b cs hb, fun e => by
    have e : r = b := by simpa [blockOf] using e
    rw [e] at hr; rw [hr.box] at hb; cases hb⟩, h.row, h.obj, h.top⟩
theorem Mv.set {S : LS} {r n c n' c' : Nat} {cs' : List LV} : Mv S (rsl r 0 n c) (S.setBox r cs') (rsl r 0 n' c') :=
  ⟨fun b cs hb hne => by
    have hne' : b ≠ r := fun e => hne (by rw [e]; rfl)
    exact ⟨(box_set_ne S cs' hne').trans hb, hne⟩, fun _ _ h => h, fun _ _ h => h, Nat.le_refl _⟩
theorem Mv.set2 {S : LS} {r n c n' c' : Nat} {cs' cs2 : List LV} : Mv S (rsl r 0 n c) ((S.setBox r cs').setBox r cs2) (rsl r 0 n' c') := Mv.trans (Mv.set (n' := n) (c' := c)) Mv.set

/-- A slice that another one's writing leaves. -/
theorem SlAt.keep {S S' : LS} {X X' Y : LV} {m : List α} (h : Mv S X S' X') (k : SlAt f z S Y m) (hne : ∀ b, blockOf Y = some b → blockOf X ≠ some b) : SlAt f z S' Y m := by
  cases k with
  | nil => exact .nil
  | row r c _ rest hr => exact .row r c m rest ⟨(h.box r _ hr.box (hne r rfl)).1, hr.room, hr.cap⟩
theorem SlAt.le {S S' : LS} {Y : LV} {m : List α} (h : S.le S') (k : SlAt f z S Y m) : SlAt f z S' Y m := by
  cases k with
  | nil => exact .nil
  | row r c _ rest hr => exact .row r c m rest ⟨h.box r _ hr.box, hr.room, hr.cap⟩
theorem SlAt.block {S : LS} {Y : LV} {m : List α} (k : SlAt f z S Y m) : ∀ b, blockOf Y = some b → ∃ cs, S.box b = some cs := by
  intro b hb
  cases k with
  | nil => cases hb
  | row r c _ rest hr =>
    obtain rfl : r = b := by simpa [blockOf] using hb
    exact ⟨_, hr.box⟩

theorem partOff_0 (l m z : Nat) (h : m ≠ l) : partOff 0 l m z = l * z := by unfold partOff; rw [if_neg h, Nat.zero_add]
theorem partOff_00 (m z : Nat) : partOff 0 0 m z = 0 := by unfold partOff; split <;> simp
/-- A part up to the end of the things, as what is read. -/
theorem RowIn.src {S : LS} {r c : Nat} {l : List α} {rest : List LV} (hz : ∀ x, (f x).length = z) (h : RowIn f z S r l c rest) {k : Nat} (hk : k ≤ l.length) (c' : Nat) : SrcL S z (rsl r (partOff 0 k c z) (l.length - k) c') (l.length - k) (cellsR f (l.drop k)) := by
  have hlen := h.len hz
  have hcap := h.cap
  by_cases hc : c = k
  · have : l.length - k = 0 := by omega
    rw [this]
    have e : cellsR f (l.drop k) = (((cellsR f l ++ rest).drop (partOff 0 k c z)).take (0 * z)) := by
      rw [Nat.zero_mul, List.take_zero, List.drop_of_length_le (by omega)]; rfl
    rw [e]
    exact .raw r _ 0 c' _ h.box (by unfold partOff; rw [if_pos hc]; simp)
  · rw [partOff_0 _ _ _ hc, ← cellsR_part hz l rest hk]
    refine .raw r _ _ c' _ h.box ?_
    rw [hlen, ← Nat.add_mul]
    exact Nat.mul_le_mul_right _ (by omega)
theorem SrcL.all {S : LS} {b n c : Nat} {cs : List LV} (hb : S.box b = some cs) (hl : cs.length = n * z) : SrcL S z (rsl b 0 n c) n cs := by
  have := SrcL.raw (S := S) (z := z) b 0 n c cs hb (by rw [Nat.zero_add, hl]; exact Nat.le_refl _)
  rw [← hl, List.drop_zero, List.take_length] at this
  exact this
theorem SlAt.src {S : LS} {X : LV} {l : List α} (hz : ∀ x, (f x).length = z) (h : SlAt f z S X l) : SrcL S z X l.length (cellsR f l) := by
  cases h with
  | nil => exact SrcL.sl .nil [] (by simp)
  | row r c _ rest h =>
    have := h.src hz (Nat.zero_le _) c
    rw [partOff_00] at this
    exact this
/-- It may be looked at as a row that stays. -/
theorem SlAt.view {S : LS} {X : LV} {l : List α} (hz : ∀ x, (f x).length = z) (h : SlAt f z S X l) : View S X (.sl .sh (l.map f)) := by
  cases h with
  | nil => exact .sh .nil []
  | row r c _ rest h =>
    have hcap := h.cap
    refine .row r 0 c z _ (l.map f) _ (by rw [List.length_map]) h.box ⟨fun e he => ?_, ?_, ?_, by rw [List.length_map]; exact hcap⟩
    · obtain ⟨x, _, rfl⟩ := List.mem_map.1 he
      exact hz x
    · rw [List.drop_zero, List.length_map, ← cellsR_length hz, List.take_left]; rfl
    · rw [Nat.zero_add, List.length_map, ← cellsR_length hz, List.length_append]; exact Nat.le_add_right _ _
theorem SlAt.part {S : LS} {r n c : Nat} {l : List α} (hz : ∀ x, (f x).length = z) (h : SlAt f z S (rsl r 0 n c) l) : n = l.length ∧ ∃ rest, RowIn f z S r l c rest := by
  cases h with
  | row _ _ _ rest h => exact ⟨rfl, rest, h⟩

/-- Put in between. -/
def insL (l : List α) (i : Nat) (x : α) : List α := l.take i ++ x :: l.drop i
theorem insL_length (l : List α) {i : Nat} (hi : i ≤ l.length) (x : α) : (insL l i x).length = l.length + 1 := by
  simp only [insL, List.length_append, List.length_take, List.length_cons, List.length_drop]; omega
theorem insL_cells (l : List α) (i : Nat) (x : α) : cellsR f (insL l i x) = cellsR f (l.take i) ++ f x ++ cellsR f (l.drop i) := by
  rw [insL, cellsR_append, cellsR_cons, List.append_assoc]
theorem insL_end (l : List α) (x : α) : insL l l.length x = l ++ [x] := by rw [insL, List.take_length, List.drop_length]
/-- Taken out. -/
def delL' (l : List α) (i : Nat) : List α := l.take i ++ l.drop (i + 1)
theorem delL'_length (l : List α) {i : Nat} (hi : i < l.length) : (delL' l i).length = l.length - 1 := by
  simp only [delL', List.length_append, List.length_take, List.length_drop]; omega

/-- With room: things moved up by one, then the new one. -/
theorem room_ins {l : List α} {rest : List LV} {i : Nat} {x : α} (hz : ∀ x, (f x).length = z) (hi : i < l.length) (hr : z ≤ rest.length) :
    splice (splice (cellsR f l ++ rest) ((i + 1) * z) (cellsR f (l.drop i))) (i * z) (f x) = cellsR f (insL l i x) ++ rest.drop z := by
  have hT : (cellsR f (l.take i)).length = i * z := by rw [cellsR_length hz, List.length_take, Nat.min_eq_left (Nat.le_of_lt hi)]
  have hd : l.drop i = l[i] :: l.drop (i + 1) := List.drop_eq_getElem_cons hi
  have e1 : cellsR f l ++ rest = (cellsR f (l.take i) ++ f l[i]) ++ (cellsR f (l.drop (i + 1)) ++ rest.take z) ++ rest.drop z := by
    rw [cellsR_split l i, hd, cellsR_cons]
    simp only [List.append_assoc, List.take_append_drop]
  have hD : (cellsR f (l.drop i)).length = (cellsR f (l.drop (i + 1)) ++ rest.take z).length := by
    rw [List.length_append, List.length_take, Nat.min_eq_left hr, cellsR_length hz, cellsR_length hz, List.length_drop, List.length_drop, ← Nat.add_one_mul]
    congr 1; omega
  rw [e1, splice_at (by rw [List.length_append, hT, hz, Nat.add_mul, Nat.one_mul]) hD]
  have e2 : cellsR f (l.take i) ++ f l[i] ++ cellsR f (l.drop i) ++ rest.drop z = cellsR f (l.take i) ++ f l[i] ++ (cellsR f (l.drop i) ++ rest.drop z) := by simp only [List.append_assoc]
  rw [e2, splice_at hT.symm (by rw [hz, hz]), insL_cells]
  simp only [List.append_assoc]
/-- Without: a new box of zeros behind the first ones, then the new one, then the others. -/
theorem grow_ins {l : List α} {i : Nat} {x : α} {A B : List LV} (hz : ∀ x, (f x).length = z) (hi : i ≤ l.length) (hA : A.length = (l.length + 1 - i) * z) :
    splice (splice (cellsR f (l.take i) ++ A ++ B) (i * z) (f x)) ((i + 1) * z) (cellsR f (l.drop i)) = cellsR f (insL l i x) ++ B := by
  have hT : (cellsR f (l.take i)).length = i * z := by rw [cellsR_length hz, List.length_take, Nat.min_eq_left hi]
  have hzA : z ≤ A.length := by rw [hA]; exact Nat.le_mul_of_pos_left _ (by omega)
  have e1 : cellsR f (l.take i) ++ A ++ B = cellsR f (l.take i) ++ A.take z ++ (A.drop z ++ B) := by
    simp only [← List.append_assoc]
    rw [List.append_assoc _ (A.take z), List.take_append_drop]
  rw [e1, splice_at hT.symm (by rw [hz, List.length_take, Nat.min_eq_left hzA])]
  have e2 : cellsR f (l.take i) ++ f x ++ (A.drop z ++ B) = (cellsR f (l.take i) ++ f x) ++ A.drop z ++ B := by simp only [List.append_assoc]
  rw [e2, splice_at (by rw [List.length_append, hT, hz, Nat.add_mul, Nat.one_mul]) (by
    rw [cellsR_length hz, List.length_drop, List.length_drop, hA, show l.length + 1 - i = (l.length - i) + 1 by omega, Nat.add_mul, Nat.one_mul, Nat.add_sub_cancel]), insL_cells]
/-- One taken out: the others moved down. -/
theorem del_cells {l : List α} {rest : List LV} {i : Nat} (hz : ∀ x, (f x).length = z) (hi : i < l.length) :
    ∃ Z : List LV, Z.length = z ∧ splice (cellsR f l ++ rest) (i * z) (cellsR f (l.drop (i + 1))) = cellsR f (delL' l i) ++ Z ++ rest := by
  have hT : (cellsR f (l.take i)).length = i * z := by rw [cellsR_length hz, List.length_take, Nat.min_eq_left (Nat.le_of_lt hi)]
  have hd : l.drop i = l[i] :: l.drop (i + 1) := List.drop_eq_getElem_cons hi
  have hL : (cellsR f (l.drop i)).length = (l.length - i) * z := by rw [cellsR_length hz, List.length_drop]
  have hL1 : (cellsR f (l.drop (i + 1))).length = (l.length - (i + 1)) * z := by rw [cellsR_length hz, List.length_drop]
  have hm : (l.length - i) * z = (l.length - (i + 1)) * z + z := by rw [show l.length - i = (l.length - (i + 1)) + 1 by omega, Nat.add_mul, Nat.one_mul]
  refine ⟨(cellsR f (l.drop i)).drop ((l.length - (i + 1)) * z), by rw [List.length_drop, hL]; omega, ?_⟩
  have e1 : cellsR f l ++ rest = cellsR f (l.take i) ++ (cellsR f (l.drop i)).take ((l.length - (i + 1)) * z) ++ ((cellsR f (l.drop i)).drop ((l.length - (i + 1)) * z) ++ rest) := by
    rw [← List.append_assoc, List.append_assoc (cellsR f (l.take i)), List.take_append_drop, ← cellsR_split]
  rw [e1, splice_at hT.symm (by rw [hL1, List.length_take, hL]; omega), delL', cellsR_append]
  simp only [List.append_assoc]
theorem set_cells {l : List α} {rest : List LV} {i : Nat} {x : α} {A B : List LV} (hz : ∀ x, (f x).length = z) (hi : i < l.length) {y y' : List LV} (e : f l[i] = A ++ y ++ B) (e' : f x = A ++ y' ++ B) (hl : y'.length = y.length) {off : Nat} (ho : off = i * z + A.length) :
    splice (cellsR f l ++ rest) off y' = cellsR f (l.set i x) ++ rest := by
  have hT : (cellsR f (l.take i)).length = i * z := by rw [cellsR_length hz, List.length_take, Nat.min_eq_left (Nat.le_of_lt hi)]
  have hd : l.drop i = l[i] :: l.drop (i + 1) := List.drop_eq_getElem_cons hi
  have e1 : cellsR f l ++ rest = (cellsR f (l.take i) ++ A) ++ y ++ (B ++ (cellsR f (l.drop (i + 1)) ++ rest)) := by
    rw [cellsR_split l i, hd, cellsR_cons, e]; simp only [List.append_assoc]
  rw [e1, splice_at (by rw [List.length_append, hT, ho]) hl, List.set_eq_take_append_cons_drop, if_pos hi, cellsR_append, cellsR_cons, e']
  simp only [List.append_assoc]
end
end Go.Proofs.Ytndcdmmmfplbbaa.LF
