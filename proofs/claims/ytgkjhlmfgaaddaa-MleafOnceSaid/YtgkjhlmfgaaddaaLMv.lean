/- Leaves compared; the walk of the law 'MleafOnce'. -/
import Derived.Test.YtgkjhlmfgaaddaaLMn
import Derived.Test.YtgkjhlmfgaaddaaLMs
import Derived.Test.YtgkjhlmfgaaddaaLGc
set_option linter.unusedVariables false
set_option linter.unusedSimpArgs false
namespace Go.Proofs.Ytgkjhlmfgaaddaa.LF
open Go.RowKit
set_option linter.unusedVariables false

def sameA (a b : Nat → SlotV) : Bool := sameS (a 0) (b 0) && (sameS (a 1) (b 1) && (sameS (a 2) (b 2) && (sameS (a 3) (b 3) && (sameS (a 4) (b 4) && (sameS (a 5) (b 5) && (sameS (a 6) (b 6) && (sameS (a 7) (b 7) && (sameS (a 8) (b 8) && (sameS (a 9) (b 9) && (sameS (a 10) (b 10) && (sameS (a 11) (b 11) && (sameS (a 12) (b 12) && (sameS (a 13) (b 13) && (sameS (a 14) (b 14) && true))))))))))))))
def sameL (a b : LeafV) : Bool := ((a.p : Int) == (b.p : Int)) && (sameA a.slot b.slot && (((a.high.s == b.high.s) && ((a.high.c == b.high.c) && true)) && ((a.bounded == b.bounded) && (((a.ns == b.ns) && ((a.ng == b.ng) && true)) && true))))
theorem eqLeafTy : EqTyA Try.prog D 31 := ⟨by kernel_rfl, by kernel_rfl⟩
theorem eqRLeafTy : EqTyA Try.prog D 45 := ⟨by kernel_rfl, by kernel_rfl⟩
theorem eqLeafCells (a b : LeafV) : eqCellsA D 5 31 (leafL a) (leafL b) = some (sameL a b) := by kernel_rfl
theorem eqRLeafCells (a b : LeafV) : eqCellsA D 5 45 (leafL a) (leafL b) = some (sameL a b) := by kernel_rfl
theorem sameL_self (a : LeafV) : sameL a a = true := by simp [sameL, sameA, sameS_self]
theorem LVal.eqLeaf {G : Ctx} (hP : G.P = Try.prog) {o : Oper} {T : Nat → TV} {S : LS} {x y : Operand} {u : TypeId} {a : LeafV} (ho : o.op = .binOp .eql 31 x y u) (hx : lev T x = .agg (leafL a)) (hy : lev T y = .agg (leafL a)) : LVal G o T S (.one (bv true)) := by
  have := LVal.eqAggA (S := S) (hP ▸ hD0 : TabOK G.P D) ho hx hy rfl rfl (hP ▸ eqLeafTy) (eqLeafCells a a)
  rwa [sameL_self] at this
theorem LVal.neqLeaf {G : Ctx} (hP : G.P = Try.prog) {o : Oper} {T : Nat → TV} {S : LS} {x y : Operand} {u : TypeId} {a : LeafV} (ho : o.op = .binOp .neq 31 x y u) (hx : lev T x = .agg (leafL a)) (hy : lev T y = .agg (leafL a)) : LVal G o T S (.one (bv false)) := by
  have := LVal.neqAggA (S := S) (hP ▸ hD0 : TabOK G.P D) ho hx hy rfl rfl (hP ▸ eqLeafTy) (eqLeafCells a a)
  rwa [sameL_self] at this
theorem sameL_of {a b : LeafV} (h : leafL a = leafL b) : sameL a b = true := by
  have h1 := eqLeafCells a b
  rw [h, eqLeafCells, sameL_self] at h1
  exact (Option.some.inj h1).symm
theorem LVal.neqLeafG {G : Ctx} (hP : G.P = Try.prog) {o : Oper} {T : Nat → TV} {S : LS} {x y : Operand} {u : TypeId} {a b : LeafV} (ho : o.op = .binOp .neq 31 x y u) (hx : lev T x = .agg (leafL a)) (hy : lev T y = .agg (leafL b)) : LVal G o T S (.one (bv (!sameL a b))) :=
  LVal.neqAggA (S := S) (hP ▸ hD0 : TabOK G.P D) ho hx hy rfl rfl (hP ▸ eqLeafTy) (eqLeafCells a b)
theorem LVal.eqRLeaf {G : Ctx} (hP : G.P = Try.prog) {o : Oper} {T : Nat → TV} {S : LS} {x y : Operand} {u : TypeId} {a : LeafV} (ho : o.op = .binOp .eql 45 x y u) (hx : lev T x = .agg (leafL a)) (hy : lev T y = .agg (leafL a)) : LVal G o T S (.one (bv true)) := by
  have := LVal.eqAggA (S := S) (hP ▸ hD0 : TabOK G.P D) ho hx hy rfl rfl (hP ▸ eqRLeafTy) (eqRLeafCells a a)
  rwa [sameL_self] at this
theorem mark_eq {a b : MarkV} (h : a = b) : ((a.s == b.s) && ((a.c == b.c) && true)) = true := by subst h; simp
theorem mark_ne {a b : MarkV} (h : a ≠ b) : ((a.s == b.s) && ((a.c == b.c) && true)) = false := by
  cases e : ((a.s == b.s) && ((a.c == b.c) && true)) with
  | false => rfl
  | true =>
    rw [Bool.and_true] at e
    exact absurd ((eqM_iff a b).1 e) h
theorem slot_eq {a b : SlotV} (h : a = b) : sameS a b = true := by subst h; exact slot_self a
theorem sameS_iff (a b : SlotV) : sameS a b = true ↔ a = b := by
  rcases a with ⟨⟨ms, mc⟩, r, v, d, x, y⟩
  rcases b with ⟨⟨ms', mc'⟩, r', v', d', x', y'⟩
  simp [sameS]
theorem slot_ne {a b : SlotV} (h : a ≠ b) : sameS a b = false := by
  cases e : sameS a b with
  | false => rfl
  | true => exact absurd ((sameS_iff a b).1 e) h

/-- What a slot that is put makes. -/
structure OnceAt (l : LeafV) (s : SlotV) (is : Bool) (P : LeafV) (old : SlotV) : Prop where
  e1 : putL l s = (P, old, is)
  ok : P.ok
  fit : Fit P
  e2 : ∃ Q, putL P s = (Q, s, true) ∧ leafL Q = leafL P
  e3 : ∃ D, delL P s.m = (D, s, true) ∧ (is = false → leafL D = leafL l)
  om : is = true → old.m = s.m
  sl : ∀ k, k < 15 → (l.slot k).m ≠ s.m → l.slot k ≠ noSlot → P.slot k = l.slot k
theorem once_of {l : LeafV} {s : SlotV} (hf : Fit l) (hok : l.ok) (hso : s.m.ok) (hs : rightS s = true) (hc : coversL l s.m = true) (hroom : (findL l s.m).2 = true ∨ l.p % 16 < 15) : ∃ P old, OnceAt l s (findL l s.m).2 P old := by
  have hP : (putL l s).1.ok := putL_ok hok hso
  cases hfi : (findL l s.m).2 with
  | true =>
    obtain ⟨e, k⟩ := putL_hit hf hs hc hfi
    generalize (findL l s.m).1 = i at *
    rw [e] at hP
    have h15 := hf.le
    have hi : i < 15 := Nat.lt_of_lt_of_le k.lt h15
    have hfit := k.next
    have hrk : (hadL l i s).rank i = s := by rw [had_rank hf hi hi, if_pos rfl]
    have hf2 : findL (hadL l i s) s.m = (i, true) := found_of hfit (k := i) k.lt (by rw [hrk])
    refine ⟨_, _, e, hP, hfit, ⟨hadL (hadL l i s) i s, ?_, ?_⟩, ⟨cutL (hadL l i s) i, ?_, fun h => by cases h⟩, fun _ => k.eq, fun j hj h1 h2 => ?_⟩
    · have := (putL_hit hfit hs (show coversL (hadL l i s) s.m = true from hc) (by rw [hf2])).1
      rw [this, hf2]
      show (_, (hadL l i s).rank i, true) = _
      rw [hrk]
    · refine leafEq rfl (fun j hj => ?_) rfl rfl rfl rfl
      show (if j = nib l.p i then s else if j = nib l.p i then s else l.slot j) = if j = nib l.p i then s else l.slot j
      split <;> rfl
    · rw [delL_yes (by rw [hf2]), hf2]
      show (_, (hadL l i s).rank i, true) = _
      rw [hrk]
    · show (if j = nib l.p i then s else l.slot j) = l.slot j
      rw [if_neg fun e2 => h1 (by rw [e2]; exact k.eq)]
  | false =>
    have hn : l.p % 16 < 15 := by
      rcases hroom with h | h
      · rw [hfi] at h; cases h
      · exact h
    obtain ⟨e, k⟩ := putL_gap hf hs hc hfi hn
    generalize (findL l s.m).1 = i at *
    rw [e] at hP
    have hile := k.le
    have hi : i < 15 := by omega
    have hfit := k.next
    have hlen := k.len
    have hrk : (addL l i s).rank i = s := by rw [add_rank hf hn hile hi, if_neg (by omega), if_pos rfl]
    have hf2 : findL (addL l i s) s.m = (i, true) := found_of hfit (k := i) (by rw [hlen]; omega) (by rw [hrk])
    have hnb : nib (insW l.p i) i = nib l.p (l.p % 16) := by rw [insW_nib hn hile hi, if_neg (by omega), if_pos rfl]
    have hno : l.slot (nib l.p (l.p % 16)) = noSlot := hf.no _ (Nat.le_refl _) hn
    refine ⟨_, _, e, hP, hfit, ⟨hadL (addL l i s) i s, ?_, ?_⟩, ⟨cutL (addL l i s) i, ?_, fun _ => ?_⟩, fun h => (by cases h), fun j hj h1 h2 => ?_⟩
    · have := (putL_hit hfit hs (show coversL (addL l i s) s.m = true from hc) (by rw [hf2])).1
      rw [this, hf2]
      show (_, (addL l i s).rank i, true) = _
      rw [hrk]
    · refine leafEq rfl (fun j hj => ?_) rfl rfl rfl rfl
      show (if j = nib (insW l.p i) i then s else if j = nib l.p (l.p % 16) then s else l.slot j) = if j = nib l.p (l.p % 16) then s else l.slot j
      rw [hnb]
      split <;> rfl
    · rw [delL_yes (by rw [hf2]), hf2]
      show (_, (addL l i s).rank i, true) = _
      rw [hrk]
    · refine leafEq (insW_rem hok.p hn hile) (fun j hj => ?_) rfl rfl rfl rfl
      show (if j = nib (insW l.p i) i then noSlot else if j = nib l.p (l.p % 16) then s else l.slot j) = l.slot j
      rw [hnb]
      split
      · rename_i h; rw [h, hno]
      · rfl
    · show (if j = nib l.p (l.p % 16) then s else l.slot j) = l.slot j
      rw [if_neg fun e2 => h2 (by rw [e2]; exact hno)]
end Go.Proofs.Ytgkjhlmfgaaddaa.LF
