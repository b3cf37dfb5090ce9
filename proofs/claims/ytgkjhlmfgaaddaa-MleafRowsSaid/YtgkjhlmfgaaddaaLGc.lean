/- Parts of the frame, one behind the other: LFq LFr LFs LFt LFu LFv LFw LFx LFy LFz LFza LFzb LFzc LFzd LFze LFzf LFzg LFzh LFzi. (Printed by merge.py.) -/
import Derived.Test.YtgkjhlmfgaaddaaLGb
import Derived.Lib.ConvBytes
import Derived.Deep.AppendSrc
import Derived.Lib.AppendZerosOnto
import Derived.Lib.Overlaps
import Derived.Deep.OwnRows
import Derived.ChangeKeysEq
set_option linter.unusedVariables false
set_option linter.unusedSimpArgs false
section
/- The frame's steps, their side conditions found at the place of use. (Printed by gen_auto.py.) -/
namespace Go.Proofs.Ytgkjhlmfgaaddaa.LF
open Go.RowKit
set_option linter.unusedVariables false

/-- A value. -/
theorem LOps.valA {G : Ctx} {M : Option Nat} {n : Nat} {ops : Array Oper} {o : Oper} {l : List Oper} {Q : (Nat → TV) → LS → Prop} {T : Nat → TV} {S : LS} {r : TV} {d : Nat} (k : LOps G M n ops l Q (upd T d r) S)
    (hg : o.guard = none := by rfl) (hd : o.dst = some d := by rfl) (hn : Nat.blt d n = true := by rfl)
    (h : LVal G o T S r := by
      first
      | (guard_target = LVal _ ⟨_, (.move _), _, _, _, _⟩ _ _ _; first
          | exact LVal.move1 rfl rfl
          | exact LVal.move2 rfl rfl
          | exact LVal.move (.inl rfl))
      | (guard_target = LVal _ ⟨_, (.assign _), _, _, _, _⟩ _ _ _; first
          | exact LVal.assign1 rfl rfl
          | exact LVal.assign2 rfl rfl
          | exact LVal.move (.inr rfl))
      | (guard_target = LVal _ ⟨_, (.nilCheck _), _, _, _, _⟩ _ _ _; first
          | exact LVal.nilCheck rfl rfl
          | exact LVal.nilCheckP rfl rfl)
      | (guard_target = LVal _ ⟨_, (.fieldAddr _ _ _), _, _, _, _⟩ _ _ _; first
          | exact LVal.fieldAddr hD rfl rfl rfl rfl rfl rfl (by decide)
          | exact LVal.fieldAddrRo hD rfl rfl rfl rfl rfl rfl (by decide))
      | (guard_target = LVal _ ⟨_, (.load _ _), _, _, _, _⟩ _ _ _; first
          | exact LVal.load hD rfl rfl (by first | assumption | exact box_new _ _ _ | exact box_set _ _ _ | (simp only [box_new, box_set, box_row, box_new_ne, box_set_ne, ne_eq, not_false_eq_true, *] <;> rfl)) rfl rfl
          | exact LVal.loadRo hD rfl rfl rfl rfl)
      | (guard_target = LVal _ ⟨_, (.call _), _, _, _, _⟩ _ _ _; first
          | exact LVal.len hD rfl rfl rfl rfl
          | exact LVal.lenStr hD rfl rfl rfl rfl)
      | (guard_target = LVal _ ⟨_, (.binOp _ _ _ _ _), _, _, _, _⟩ _ _ _; first
          | exact LVal.add64 rfl rfl rfl (by omega)
          | exact LVal.sub64 rfl rfl rfl (by omega)
          | exact LVal.addU64 rfl rfl rfl (by omega)
          | exact LVal.subU64 rfl rfl rfl (by omega)
          | exact LVal.mulU64 rfl rfl rfl (by omega)
          | exact LVal.remI rfl rfl rfl (by omega)
          | exact LVal.quoU64 rfl rfl rfl (by omega)
          | exact LVal.quo64 rfl rfl rfl (by omega)
          | exact LVal.mul64 rfl rfl rfl (by omega)
          | exact LVal.neqSame hD rfl rfl rfl
          | exact LVal.neqSameB hD rfl rfl rfl rfl rfl
          | exact LVal.eqStr rfl rfl rfl
          | exact LVal.neqStr rfl rfl rfl
          | exact LVal.eqNilP hD rfl rfl rfl rfl
          | exact LVal.neqNilP hD rfl rfl rfl rfl
          | exact LVal.eqAgg hD rfl rfl rfl rfl rfl (by assumption) rfl
          | exact LVal.neqAgg hD rfl rfl rfl rfl rfl (by assumption) rfl
          | exact LVal.binOp hD rfl rfl rfl rfl)
      | (guard_target = LVal _ ⟨_, (.convert _ _ _), _, _, _, _⟩ _ _ _; first
          | exact LVal.conv64 hD rfl rfl rfl rfl rfl (by omega)
          | exact LVal.convU64 hD rfl rfl rfl rfl rfl (by omega)
          | exact LVal.convInt hD rfl rfl rfl rfl rfl)
      | (guard_target = LVal _ ⟨_, (.unOp _ _ _), _, _, _, _⟩ _ _ _; first | exact LVal.unOp rfl rfl rfl)
      | (guard_target = LVal _ ⟨_, (.pick _ _ _), _, _, _, _⟩ _ _ _; first
          | exact LVal.pickOr rfl rfl rfl (by first | rfl | assumption | exact andL (by assumption)) (by intro hb; first | rfl | exact beqF hb | exact andI (by assumption) (beqF hb))
          | exact LVal.pickAnd rfl rfl rfl (by first | rfl | assumption | exact andL (by assumption)) (by intro hb; first | rfl | exact beqT hb | exact andI (by assumption) (beqT hb))
          | exact LVal.pick rfl rfl)
      | (guard_target = LVal _ ⟨_, (.extract _ _), _, _, _, _⟩ _ _ _; first | exact LVal.extract rfl rfl rfl)
      | (guard_target = LVal _ ⟨_, (.indexAddr _ _ _), _, _, _, _⟩ _ _ _; first
          | exact LVal.indexE hD rfl rfl rfl rfl rfl rfl (by first | assumption | omega | (simp at hw; omega)) rfl rfl
          | exact LVal.indexG hD rfl rfl rfl rfl rfl rfl rfl (by first | assumption | omega | (simp at hw; omega)) rfl
          | exact LVal.indexC hD rfl rfl rfl rfl rfl rfl (by decide) rfl rfl rfl)
      | (guard_target = LVal _ ⟨_, (.field _ _ _), _, _, _, _⟩ _ _ _; first | exact LVal.field hD rfl rfl rfl rfl rfl rfl rfl)
      | (guard_target = LVal _ ⟨_, (.buildSlice _ _ _), _, _, _, _⟩ _ _ _; first | exact LVal.buildSlice1 hD rfl rfl rfl rfl rfl rfl rfl rfl rfl rfl)
      | (guard_target = LVal _ ⟨_, (.build _ _), _, _, _, _⟩ _ _ _; first | exact LVal.build hD rfl rfl rfl rfl rfl rfl rfl)
      | (guard_target = LVal _ ⟨_, (.slice _ _ _ _ _), _, _, _, _⟩ _ _ _; first
          | exact LVal.takeMap hD rfl rfl rfl rfl rfl rfl (by first | assumption | omega | (simp at hw; omega)) rfl (fun _ _ => rfl)
          | exact LVal.dropMap hD rfl rfl rfl rfl rfl rfl (by first | assumption | omega | (simp at hw; omega)) rfl (fun _ _ => rfl)
          | exact LVal.cutMap hD rfl rfl rfl rfl rfl rfl rfl (by first | assumption | omega | (simp at hw; omega)) (by first | assumption | omega | (simp at hw; omega)) rfl (fun _ _ => rfl))) : LOps G M n ops (o :: l) Q T S := .val h hg hd hn k

/-- Left out. -/
theorem LOps.outA {G : Ctx} {M : Option Nat} {n : Nat} {ops : Array Oper} {o : Oper} {l : List Oper} {Q : (Nat → TV) → LS → Prop} {T : Nat → TV} {S : LS} {d : Nat} (k : LOps G M n ops l Q (upd T d (.tup [])) S) (hg : wantedT ops T o = some false := by rfl) (hd : o.dst = some d := by rfl) (hn : Nat.blt d n = true := by rfl) : LOps G M n ops (o :: l) Q T S := .out hg hd hn k

/-- A value under a guard. -/
theorem LOps.whenA {G : Ctx} {M : Option Nat} {n : Nat} {ops : Array Oper} {o : Oper} {l : List Oper} {Q : (Nat → TV) → LS → Prop} {T : Nat → TV} {S : LS} {g : Bool} {r : TV} {d : Nat} (k : LOps G M n ops l Q (upd T d (.when g r)) S)
    (hg : wantedT ops T o = some g := by rfl) (hd : o.dst = some d := by rfl) (hn : Nat.blt d n = true := by rfl) (hw : g = true → allT (whens T o.op.operands.toList) := by intro hw; first | exact trivial | exact ⟨hw, trivial⟩ | exact ⟨hw, hw, trivial⟩ | exact ⟨hw, hw, hw, trivial⟩ | exact ⟨andL hw, trivial⟩ | exact ⟨andL hw, hw, trivial⟩ | exact ⟨hw, andL hw, trivial⟩)
    (h : g = true → LVal G o (strip T) S r := by
      intro hw
      first
      | (guard_target = LVal _ ⟨_, (.move _), _, _, _, _⟩ _ _ _; first
          | exact LVal.move1 rfl rfl
          | exact LVal.move2 rfl rfl
          | exact LVal.move (.inl rfl))
      | (guard_target = LVal _ ⟨_, (.assign _), _, _, _, _⟩ _ _ _; first
          | exact LVal.assign1 rfl rfl
          | exact LVal.assign2 rfl rfl
          | exact LVal.move (.inr rfl))
      | (guard_target = LVal _ ⟨_, (.nilCheck _), _, _, _, _⟩ _ _ _; first
          | exact LVal.nilCheck rfl rfl
          | exact LVal.nilCheckP rfl rfl)
      | (guard_target = LVal _ ⟨_, (.fieldAddr _ _ _), _, _, _, _⟩ _ _ _; first
          | exact LVal.fieldAddr hD rfl rfl rfl rfl rfl rfl (by decide)
          | exact LVal.fieldAddrRo hD rfl rfl rfl rfl rfl rfl (by decide))
      | (guard_target = LVal _ ⟨_, (.load _ _), _, _, _, _⟩ _ _ _; first
          | exact LVal.load hD rfl rfl (by first | assumption | exact box_new _ _ _ | exact box_set _ _ _ | (simp only [box_new, box_set, box_row, box_new_ne, box_set_ne, ne_eq, not_false_eq_true, *] <;> rfl)) rfl rfl
          | exact LVal.loadRo hD rfl rfl rfl rfl)
      | (guard_target = LVal _ ⟨_, (.call _), _, _, _, _⟩ _ _ _; first
          | exact LVal.len hD rfl rfl rfl rfl
          | exact LVal.lenStr hD rfl rfl rfl rfl)
      | (guard_target = LVal _ ⟨_, (.binOp _ _ _ _ _), _, _, _, _⟩ _ _ _; first
          | exact LVal.add64 rfl rfl rfl (by omega)
          | exact LVal.sub64 rfl rfl rfl (by omega)
          | exact LVal.addU64 rfl rfl rfl (by omega)
          | exact LVal.subU64 rfl rfl rfl (by omega)
          | exact LVal.mulU64 rfl rfl rfl (by omega)
          | exact LVal.remI rfl rfl rfl (by omega)
          | exact LVal.quoU64 rfl rfl rfl (by omega)
          | exact LVal.quo64 rfl rfl rfl (by omega)
          | exact LVal.mul64 rfl rfl rfl (by omega)
          | exact LVal.neqSame hD rfl rfl rfl
          | exact LVal.neqSameB hD rfl rfl rfl rfl rfl
          | exact LVal.eqStr rfl rfl rfl
          | exact LVal.neqStr rfl rfl rfl
          | exact LVal.eqNilP hD rfl rfl rfl rfl
          | exact LVal.neqNilP hD rfl rfl rfl rfl
          | exact LVal.eqAgg hD rfl rfl rfl rfl rfl (by assumption) rfl
          | exact LVal.neqAgg hD rfl rfl rfl rfl rfl (by assumption) rfl
          | exact LVal.binOp hD rfl rfl rfl rfl)
      | (guard_target = LVal _ ⟨_, (.convert _ _ _), _, _, _, _⟩ _ _ _; first
          | exact LVal.conv64 hD rfl rfl rfl rfl rfl (by omega)
          | exact LVal.convU64 hD rfl rfl rfl rfl rfl (by omega)
          | exact LVal.convInt hD rfl rfl rfl rfl rfl)
      | (guard_target = LVal _ ⟨_, (.unOp _ _ _), _, _, _, _⟩ _ _ _; first | exact LVal.unOp rfl rfl rfl)
      | (guard_target = LVal _ ⟨_, (.pick _ _ _), _, _, _, _⟩ _ _ _; first
          | exact LVal.pickOr rfl rfl rfl (by first | rfl | assumption | exact andL (by assumption)) (by intro hb; first | rfl | exact beqF hb | exact andI (by assumption) (beqF hb))
          | exact LVal.pickAnd rfl rfl rfl (by first | rfl | assumption | exact andL (by assumption)) (by intro hb; first | rfl | exact beqT hb | exact andI (by assumption) (beqT hb))
          | exact LVal.pick rfl rfl)
      | (guard_target = LVal _ ⟨_, (.extract _ _), _, _, _, _⟩ _ _ _; first | exact LVal.extract rfl rfl rfl)
      | (guard_target = LVal _ ⟨_, (.indexAddr _ _ _), _, _, _, _⟩ _ _ _; first
          | exact LVal.indexE hD rfl rfl rfl rfl rfl rfl (by first | assumption | omega | (simp at hw; omega)) rfl rfl
          | exact LVal.indexG hD rfl rfl rfl rfl rfl rfl rfl (by first | assumption | omega | (simp at hw; omega)) rfl
          | exact LVal.indexC hD rfl rfl rfl rfl rfl rfl (by decide) rfl rfl rfl)
      | (guard_target = LVal _ ⟨_, (.field _ _ _), _, _, _, _⟩ _ _ _; first | exact LVal.field hD rfl rfl rfl rfl rfl rfl rfl)
      | (guard_target = LVal _ ⟨_, (.buildSlice _ _ _), _, _, _, _⟩ _ _ _; first | exact LVal.buildSlice1 hD rfl rfl rfl rfl rfl rfl rfl rfl rfl rfl)
      | (guard_target = LVal _ ⟨_, (.build _ _), _, _, _, _⟩ _ _ _; first | exact LVal.build hD rfl rfl rfl rfl rfl rfl rfl)
      | (guard_target = LVal _ ⟨_, (.slice _ _ _ _ _), _, _, _, _⟩ _ _ _; first
          | exact LVal.takeMap hD rfl rfl rfl rfl rfl rfl (by first | assumption | omega | (simp at hw; omega)) rfl (fun _ _ => rfl)
          | exact LVal.dropMap hD rfl rfl rfl rfl rfl rfl (by first | assumption | omega | (simp at hw; omega)) rfl (fun _ _ => rfl)
          | exact LVal.cutMap hD rfl rfl rfl rfl rfl rfl rfl (by first | assumption | omega | (simp at hw; omega)) (by first | assumption | omega | (simp at hw; omega)) rfl (fun _ _ => rfl))) : LOps G M n ops (o :: l) Q T S := .when hg (fun e => .strip (hw e) (h e)) hd hn k

theorem LOps.pickA {G : Ctx} {M : Option Nat} {n : Nat} {ops : Array Oper} {o : Oper} {l : List Oper} {Q : (Nat → TV) → LS → Prop} {T : Nat → TV} {S : LS} {g : Bool} {r : TV} {d : Nat} (k : LOps G M n ops l Q (upd T d (.when g r)) S)
    (hg : wantedT ops T o = some g := by rfl) (hd : o.dst = some d := by rfl) (hn : Nat.blt d n = true := by rfl)
    (h : g = true → LVal G o T S r := by intro hw; first | exact LVal.pickOr rfl rfl rfl (by first | rfl | assumption | exact andL (by assumption)) (by intro hb; first | rfl | exact beqF hb | exact andI (by assumption) (beqF hb)) | exact LVal.pickAnd rfl rfl rfl (by first | rfl | assumption | exact andL (by assumption)) (by intro hb; first | rfl | exact beqT hb | exact andI (by assumption) (beqT hb))) : LOps G M n ops (o :: l) Q T S := .when hg h hd hn k

/-- A call under a guard. -/
theorem LOps.whenC {G : Ctx} {M : Option Nat} {n : Nat} {ops : Array Oper} {o : Oper} {l : List Oper} {Q : (Nat → TV) → LS → Prop} {T : Nat → TV} {S : LS} {g : Bool} {r : TV} {d : Nat} (h : LVal G o (strip T) S r) (k : LOps G M n ops l Q (upd T d (.when g r)) S)
    (hg : wantedT ops T o = some g := by rfl) (hd : o.dst = some d := by rfl) (hn : Nat.blt d n = true := by rfl) (hw : g = true → allT (whens T o.op.operands.toList) := by intro hw; first | exact trivial | exact ⟨hw, trivial⟩ | exact ⟨hw, hw, trivial⟩ | exact ⟨hw, hw, hw, trivial⟩ | exact ⟨andL hw, trivial⟩ | exact ⟨andL hw, hw, trivial⟩ | exact ⟨hw, andL hw, trivial⟩) : LOps G M n ops (o :: l) Q T S := .whenS hg hw h hd hn k

/-- A store. -/
theorem LOps.storeA {G : Ctx} {D : Tab} {M : Option Nat} {n : Nat} {ops : Array Oper} {o : Oper} {os : List Oper} {Q : (Nat → TV) → LS → Prop} {T : Nat → TV} {S : LS} {t : TypeId} {p x : Operand} {b off : Nat} {cs l : List LV} {i : TI} (k : LOps G M n ops os Q T (S.setBox b (splice cs off l)))
    (hd : o.dst = none := by rfl) (hg : wantedT ops T o = some true := by rfl) (ho : o.op = .store t p x := by rfl) (hD : TabOK G.P D := by assumption)
    (hp : lev T p = .one (.v (.pointer (some ⟨b, off, none⟩))) := by rfl) (hb : S.box b = some cs := by first | assumption | exact box_new _ _ _ | exact box_set _ _ _ | (simp only [box_new, box_set, box_row, box_new_ne, box_set_ne, ne_eq, not_false_eq_true, *] <;> rfl)) (hx : tcells (lev T x) = some l := by rfl) (hi : D.get t = some i := by rfl) (hs : Nat.beq l.length i.size = true := by rfl) (hl : Nat.ble (off + l.length) cs.length = true := by rfl) :
    LOps G M n ops (o :: os) Q T S := .do0 (LDo.store hD ho hp hb hx hi hs hl) hg hd (by rintro _ _ ⟨rfl, rfl⟩; exact k)

theorem LRl.valA {X : Nat → Nat → Prop} {G : Ctx} {M : Option Nat} {n : Nat} {ops : List Oper} {ord : List Nat} {Q : (Nat → TV) → LS → Prop} {l : List Oper} {p : Nat} {T : Nat → TV} {S : LS} {o : Oper} {r : TV} {d : Nat} (k : LRl X G M n ops ord Q l (p + 1) (upd T d r) S)
    (hg : o.guard = none := by rfl) (hd : o.dst = some d := by rfl) (hn : Nat.blt d n = true := by rfl)
    (h : ∀ S', S.leX (X p) S' → LVal G o T S' r := by
      intro _ hS
      first
      | (guard_target = LVal _ ⟨_, (.move _), _, _, _, _⟩ _ _ _; first
          | exact LVal.move1 rfl rfl
          | exact LVal.move2 rfl rfl
          | exact LVal.move (.inl rfl))
      | (guard_target = LVal _ ⟨_, (.assign _), _, _, _, _⟩ _ _ _; first
          | exact LVal.assign1 rfl rfl
          | exact LVal.assign2 rfl rfl
          | exact LVal.move (.inr rfl))
      | (guard_target = LVal _ ⟨_, (.nilCheck _), _, _, _, _⟩ _ _ _; first
          | exact LVal.nilCheck rfl rfl
          | exact LVal.nilCheckP rfl rfl)
      | (guard_target = LVal _ ⟨_, (.fieldAddr _ _ _), _, _, _, _⟩ _ _ _; first
          | exact LVal.fieldAddr hD rfl rfl rfl rfl rfl rfl (by decide)
          | exact LVal.fieldAddrRo hD rfl rfl rfl rfl rfl rfl (by decide))
      | (guard_target = LVal _ ⟨_, (.load _ _), _, _, _, _⟩ _ _ _; first
          | exact LVal.load hD rfl rfl (hS.box _ _ (by first | assumption | exact box_new _ _ _ | exact box_set _ _ _ | (simp only [box_new, box_set, box_row, box_new_ne, box_set_ne, ne_eq, not_false_eq_true, *] <;> rfl)) (by first | exact id | assumption | (intro hx; rcases hx with hx | hx <;> omega) | (intro hx; have hx2 : _ = _ := hx; omega))) rfl rfl
          | exact LVal.loadRo hD rfl rfl rfl rfl)
      | (guard_target = LVal _ ⟨_, (.call _), _, _, _, _⟩ _ _ _; first
          | exact LVal.len hD rfl rfl rfl rfl
          | exact LVal.lenStr hD rfl rfl rfl rfl)
      | (guard_target = LVal _ ⟨_, (.binOp _ _ _ _ _), _, _, _, _⟩ _ _ _; first
          | exact LVal.add64 rfl rfl rfl (by omega)
          | exact LVal.sub64 rfl rfl rfl (by omega)
          | exact LVal.addU64 rfl rfl rfl (by omega)
          | exact LVal.subU64 rfl rfl rfl (by omega)
          | exact LVal.mulU64 rfl rfl rfl (by omega)
          | exact LVal.remI rfl rfl rfl (by omega)
          | exact LVal.quoU64 rfl rfl rfl (by omega)
          | exact LVal.quo64 rfl rfl rfl (by omega)
          | exact LVal.mul64 rfl rfl rfl (by omega)
          | exact LVal.neqSame hD rfl rfl rfl
          | exact LVal.neqSameB hD rfl rfl rfl rfl rfl
          | exact LVal.eqStr rfl rfl rfl
          | exact LVal.neqStr rfl rfl rfl
          | exact LVal.eqNilP hD rfl rfl rfl rfl
          | exact LVal.neqNilP hD rfl rfl rfl rfl
          | exact LVal.eqAgg hD rfl rfl rfl rfl rfl (by assumption) rfl
          | exact LVal.neqAgg hD rfl rfl rfl rfl rfl (by assumption) rfl
          | exact LVal.binOp hD rfl rfl rfl rfl)
      | (guard_target = LVal _ ⟨_, (.convert _ _ _), _, _, _, _⟩ _ _ _; first
          | exact LVal.conv64 hD rfl rfl rfl rfl rfl (by omega)
          | exact LVal.convU64 hD rfl rfl rfl rfl rfl (by omega)
          | exact LVal.convInt hD rfl rfl rfl rfl rfl)
      | (guard_target = LVal _ ⟨_, (.unOp _ _ _), _, _, _, _⟩ _ _ _; first | exact LVal.unOp rfl rfl rfl)
      | (guard_target = LVal _ ⟨_, (.pick _ _ _), _, _, _, _⟩ _ _ _; first
          | exact LVal.pickOr rfl rfl rfl (by first | rfl | assumption | exact andL (by assumption)) (by intro hb; first | rfl | exact beqF hb | exact andI (by assumption) (beqF hb))
          | exact LVal.pickAnd rfl rfl rfl (by first | rfl | assumption | exact andL (by assumption)) (by intro hb; first | rfl | exact beqT hb | exact andI (by assumption) (beqT hb))
          | exact LVal.pick rfl rfl)
      | (guard_target = LVal _ ⟨_, (.extract _ _), _, _, _, _⟩ _ _ _; first | exact LVal.extract rfl rfl rfl)
      | (guard_target = LVal _ ⟨_, (.indexAddr _ _ _), _, _, _, _⟩ _ _ _; first
          | exact LVal.indexE hD rfl rfl rfl rfl rfl rfl (by first | assumption | omega | (simp at hw; omega)) rfl rfl
          | exact LVal.indexG hD rfl rfl rfl rfl rfl rfl rfl (by first | assumption | omega | (simp at hw; omega)) rfl
          | exact LVal.indexC hD rfl rfl rfl rfl rfl rfl (by decide) rfl rfl rfl)
      | (guard_target = LVal _ ⟨_, (.field _ _ _), _, _, _, _⟩ _ _ _; first | exact LVal.field hD rfl rfl rfl rfl rfl rfl rfl)
      | (guard_target = LVal _ ⟨_, (.buildSlice _ _ _), _, _, _, _⟩ _ _ _; first | exact LVal.buildSlice1 hD rfl rfl rfl rfl rfl rfl rfl rfl rfl rfl)
      | (guard_target = LVal _ ⟨_, (.build _ _), _, _, _, _⟩ _ _ _; first | exact LVal.build hD rfl rfl rfl rfl rfl rfl rfl)
      | (guard_target = LVal _ ⟨_, (.slice _ _ _ _ _), _, _, _, _⟩ _ _ _; first
          | exact LVal.takeMap hD rfl rfl rfl rfl rfl rfl (by first | assumption | omega | (simp at hw; omega)) rfl (fun _ _ => rfl)
          | exact LVal.dropMap hD rfl rfl rfl rfl rfl rfl (by first | assumption | omega | (simp at hw; omega)) rfl (fun _ _ => rfl)
          | exact LVal.cutMap hD rfl rfl rfl rfl rfl rfl rfl (by first | assumption | omega | (simp at hw; omega)) (by first | assumption | omega | (simp at hw; omega)) rfl (fun _ _ => rfl))) : LRl X G M n ops ord Q (o :: l) p T S := .val0 h hg hd hn k

theorem LRl.outA {X : Nat → Nat → Prop} {G : Ctx} {M : Option Nat} {n : Nat} {ops : List Oper} {ord : List Nat} {Q : (Nat → TV) → LS → Prop} {l : List Oper} {p : Nat} {T : Nat → TV} {S : LS} {o : Oper} {d : Nat} (k : LRl X G M n ops ord Q l (p + 1) (upd T d (.tup [])) S) (hg : wantedT ops.toArray T o = some false := by rfl) (hd : o.dst = some d := by rfl) (hn : Nat.blt d n = true := by rfl) : LRl X G M n ops ord Q (o :: l) p T S := .skip hg hd hn k

theorem LRl.whenA {X : Nat → Nat → Prop} {G : Ctx} {M : Option Nat} {n : Nat} {ops : List Oper} {ord : List Nat} {Q : (Nat → TV) → LS → Prop} {l : List Oper} {p : Nat} {T : Nat → TV} {S : LS} {o : Oper} {g : Bool} {r : TV} {d : Nat} (k : LRl X G M n ops ord Q l (p + 1) (upd T d (.when g r)) S)
    (hg : wantedT ops.toArray T o = some g := by rfl) (hd : o.dst = some d := by rfl) (hn : Nat.blt d n = true := by rfl) (hw : g = true → allT (whens T o.op.operands.toList) := by intro hw; first | exact trivial | exact ⟨hw, trivial⟩ | exact ⟨hw, hw, trivial⟩ | exact ⟨hw, hw, hw, trivial⟩ | exact ⟨andL hw, trivial⟩ | exact ⟨andL hw, hw, trivial⟩ | exact ⟨hw, andL hw, trivial⟩)
    (h : ∀ S', S.leX (X p) S' → g = true → LVal G o (strip T) S' r := by
      intro _ hS hw
      first
      | (guard_target = LVal _ ⟨_, (.move _), _, _, _, _⟩ _ _ _; first
          | exact LVal.move1 rfl rfl
          | exact LVal.move2 rfl rfl
          | exact LVal.move (.inl rfl))
      | (guard_target = LVal _ ⟨_, (.assign _), _, _, _, _⟩ _ _ _; first
          | exact LVal.assign1 rfl rfl
          | exact LVal.assign2 rfl rfl
          | exact LVal.move (.inr rfl))
      | (guard_target = LVal _ ⟨_, (.nilCheck _), _, _, _, _⟩ _ _ _; first
          | exact LVal.nilCheck rfl rfl
          | exact LVal.nilCheckP rfl rfl)
      | (guard_target = LVal _ ⟨_, (.fieldAddr _ _ _), _, _, _, _⟩ _ _ _; first
          | exact LVal.fieldAddr hD rfl rfl rfl rfl rfl rfl (by decide)
          | exact LVal.fieldAddrRo hD rfl rfl rfl rfl rfl rfl (by decide))
      | (guard_target = LVal _ ⟨_, (.load _ _), _, _, _, _⟩ _ _ _; first
          | exact LVal.load hD rfl rfl (hS.box _ _ (by first | assumption | exact box_new _ _ _ | exact box_set _ _ _ | (simp only [box_new, box_set, box_row, box_new_ne, box_set_ne, ne_eq, not_false_eq_true, *] <;> rfl)) (by first | exact id | assumption | (intro hx; rcases hx with hx | hx <;> omega) | (intro hx; have hx2 : _ = _ := hx; omega))) rfl rfl
          | exact LVal.loadRo hD rfl rfl rfl rfl)
      | (guard_target = LVal _ ⟨_, (.call _), _, _, _, _⟩ _ _ _; first
          | exact LVal.len hD rfl rfl rfl rfl
          | exact LVal.lenStr hD rfl rfl rfl rfl)
      | (guard_target = LVal _ ⟨_, (.binOp _ _ _ _ _), _, _, _, _⟩ _ _ _; first
          | exact LVal.add64 rfl rfl rfl (by omega)
          | exact LVal.sub64 rfl rfl rfl (by omega)
          | exact LVal.addU64 rfl rfl rfl (by omega)
          | exact LVal.subU64 rfl rfl rfl (by omega)
          | exact LVal.mulU64 rfl rfl rfl (by omega)
          | exact LVal.remI rfl rfl rfl (by omega)
          | exact LVal.quoU64 rfl rfl rfl (by omega)
          | exact LVal.quo64 rfl rfl rfl (by omega)
          | exact LVal.mul64 rfl rfl rfl (by omega)
          | exact LVal.neqSame hD rfl rfl rfl
          | exact LVal.neqSameB hD rfl rfl rfl rfl rfl
          | exact LVal.eqStr rfl rfl rfl
          | exact LVal.neqStr rfl rfl rfl
          | exact LVal.eqNilP hD rfl rfl rfl rfl
          | exact LVal.neqNilP hD rfl rfl rfl rfl
          | exact LVal.eqAgg hD rfl rfl rfl rfl rfl (by assumption) rfl
          | exact LVal.neqAgg hD rfl rfl rfl rfl rfl (by assumption) rfl
          | exact LVal.binOp hD rfl rfl rfl rfl)
      | (guard_target = LVal _ ⟨_, (.convert _ _ _), _, _, _, _⟩ _ _ _; first
          | exact LVal.conv64 hD rfl rfl rfl rfl rfl (by omega)
          | exact LVal.convU64 hD rfl rfl rfl rfl rfl (by omega)
          | exact LVal.convInt hD rfl rfl rfl rfl rfl)
      | (guard_target = LVal _ ⟨_, (.unOp _ _ _), _, _, _, _⟩ _ _ _; first | exact LVal.unOp rfl rfl rfl)
      | (guard_target = LVal _ ⟨_, (.pick _ _ _), _, _, _, _⟩ _ _ _; first
          | exact LVal.pickOr rfl rfl rfl (by first | rfl | assumption | exact andL (by assumption)) (by intro hb; first | rfl | exact beqF hb | exact andI (by assumption) (beqF hb))
          | exact LVal.pickAnd rfl rfl rfl (by first | rfl | assumption | exact andL (by assumption)) (by intro hb; first | rfl | exact beqT hb | exact andI (by assumption) (beqT hb))
          | exact LVal.pick rfl rfl)
      | (guard_target = LVal _ ⟨_, (.extract _ _), _, _, _, _⟩ _ _ _; first | exact LVal.extract rfl rfl rfl)
      | (guard_target = LVal _ ⟨_, (.indexAddr _ _ _), _, _, _, _⟩ _ _ _; first
          | exact LVal.indexE hD rfl rfl rfl rfl rfl rfl (by first | assumption | omega | (simp at hw; omega)) rfl rfl
          | exact LVal.indexG hD rfl rfl rfl rfl rfl rfl rfl (by first | assumption | omega | (simp at hw; omega)) rfl
          | exact LVal.indexC hD rfl rfl rfl rfl rfl rfl (by decide) rfl rfl rfl)
      | (guard_target = LVal _ ⟨_, (.field _ _ _), _, _, _, _⟩ _ _ _; first | exact LVal.field hD rfl rfl rfl rfl rfl rfl rfl)
      | (guard_target = LVal _ ⟨_, (.buildSlice _ _ _), _, _, _, _⟩ _ _ _; first | exact LVal.buildSlice1 hD rfl rfl rfl rfl rfl rfl rfl rfl rfl rfl)
      | (guard_target = LVal _ ⟨_, (.build _ _), _, _, _, _⟩ _ _ _; first | exact LVal.build hD rfl rfl rfl rfl rfl rfl rfl)
      | (guard_target = LVal _ ⟨_, (.slice _ _ _ _ _), _, _, _, _⟩ _ _ _; first
          | exact LVal.takeMap hD rfl rfl rfl rfl rfl rfl (by first | assumption | omega | (simp at hw; omega)) rfl (fun _ _ => rfl)
          | exact LVal.dropMap hD rfl rfl rfl rfl rfl rfl (by first | assumption | omega | (simp at hw; omega)) rfl (fun _ _ => rfl)
          | exact LVal.cutMap hD rfl rfl rfl rfl rfl rfl rfl (by first | assumption | omega | (simp at hw; omega)) (by first | assumption | omega | (simp at hw; omega)) rfl (fun _ _ => rfl))) : LRl X G M n ops ord Q (o :: l) p T S := .when hg (fun S' hs e => .strip (hw e) (h S' hs e)) hd hn k

theorem LRl.pickA {X : Nat → Nat → Prop} {G : Ctx} {M : Option Nat} {n : Nat} {ops : List Oper} {ord : List Nat} {Q : (Nat → TV) → LS → Prop} {l : List Oper} {p : Nat} {T : Nat → TV} {S : LS} {o : Oper} {g : Bool} {r : TV} {d : Nat} (k : LRl X G M n ops ord Q l (p + 1) (upd T d (.when g r)) S)
    (hg : wantedT ops.toArray T o = some g := by rfl) (hd : o.dst = some d := by rfl) (hn : Nat.blt d n = true := by rfl)
    (h : ∀ S', S.leX (X p) S' → g = true → LVal G o T S' r := by intro _ _ hw; first | exact LVal.pickOr rfl rfl rfl (by first | rfl | assumption | exact andL (by assumption)) (by intro hb; first | rfl | exact beqF hb | exact andI (by assumption) (beqF hb)) | exact LVal.pickAnd rfl rfl rfl (by first | rfl | assumption | exact andL (by assumption)) (by intro hb; first | rfl | exact beqT hb | exact andI (by assumption) (beqT hb))) : LRl X G M n ops ord Q (o :: l) p T S := .when hg h hd hn k

theorem LRl.valC {X : Nat → Nat → Prop} {G : Ctx} {M : Option Nat} {n : Nat} {ops : List Oper} {ord : List Nat} {Q : (Nat → TV) → LS → Prop} {l : List Oper} {p : Nat} {T : Nat → TV} {S : LS} {o : Oper} {r : TV} {d : Nat} (h : ∀ S', LVal G o T S' r) (k : LRl X G M n ops ord Q l (p + 1) (upd T d r) S)
    (hg : o.guard = none := by rfl) (hd : o.dst = some d := by rfl) (hn : Nat.blt d n = true := by rfl) : LRl X G M n ops ord Q (o :: l) p T S := .val0 (fun S' _ => h S') hg hd hn k

theorem LRl.whenC {X : Nat → Nat → Prop} {G : Ctx} {M : Option Nat} {n : Nat} {ops : List Oper} {ord : List Nat} {Q : (Nat → TV) → LS → Prop} {l : List Oper} {p : Nat} {T : Nat → TV} {S : LS} {o : Oper} {g : Bool} {r : TV} {d : Nat} (h : ∀ S', LVal G o (strip T) S' r) (k : LRl X G M n ops ord Q l (p + 1) (upd T d (.when g r)) S)
    (hg : wantedT ops.toArray T o = some g := by rfl) (hd : o.dst = some d := by rfl) (hn : Nat.blt d n = true := by rfl) (hw : g = true → allT (whens T o.op.operands.toList) := by intro hw; first | exact trivial | exact ⟨hw, trivial⟩ | exact ⟨hw, hw, trivial⟩ | exact ⟨hw, hw, hw, trivial⟩ | exact ⟨andL hw, trivial⟩ | exact ⟨andL hw, hw, trivial⟩ | exact ⟨hw, andL hw, trivial⟩) : LRl X G M n ops ord Q (o :: l) p T S := .whenS hg hw (fun S' _ => h S') hd hn k

end Go.Proofs.Ytgkjhlmfgaaddaa.LF
end

section
/- What a step leaves alone: the blocks outside of a footprint. -/
namespace Go.Proofs.Ytgkjhlmfgaaddaa.LF
open Go.RowKit

/-- From one logical memory to the next, all but the blocks of F stays. -/
structure LS.only (F : Nat → Prop) (S S' : LS) : Prop where
  box : ∀ b x, ¬ F b → S.box b = some x → S'.box b = some x
  row : ∀ b x, ¬ F b → S.row b = some x → S'.row b = some x
  obj : ∀ b x, ¬ F b → S.obj b = some x → S'.obj b = some x
  top : S.top ≤ S'.top

theorem LS.only.refl (F : Nat → Prop) (S : LS) : S.only F S := ⟨fun _ _ _ h => h, fun _ _ _ h => h, fun _ _ _ h => h, Nat.le_refl _⟩
theorem LS.only.trans {F : Nat → Prop} {S S' S'' : LS} (h : S.only F S') (k : S'.only F S'') : S.only F S'' :=
  ⟨fun b x hb hx => k.box b x hb (h.box b x hb hx), fun b x hb hx => k.row b x hb (h.row b x hb hx), fun b x hb hx => k.obj b x hb (h.obj b x hb hx), Nat.le_trans h.top k.top⟩
theorem LS.only.mono {F F' : Nat → Prop} {S S' : LS} (h : S.only F S') (hf : ∀ b, F b → F' b) : S.only F' S' :=
  ⟨fun b x hb => h.box b x fun hF => hb (hf b hF), fun b x hb => h.row b x fun hF => hb (hf b hF), fun b x hb => h.obj b x fun hF => hb (hf b hF), h.top⟩
theorem LS.le.only {S S' : LS} (h : S.le S') (F : Nat → Prop) : S.only F S' := ⟨fun b x _ => h.box b x, fun b x _ => h.row b x, fun b x _ => h.obj b x, h.top⟩
theorem LS.only.le {S S' : LS} (h : S.only (fun _ => False) S') : S.le S' := ⟨fun b x => h.box b x id, fun b x => h.row b x id, fun b x => h.obj b x id, h.top⟩
theorem LS.only.newBox {S : LS} {b : Nat} (hb : S.fresh b) (F : Nat → Prop) (cs : List LV) : S.only F (S.newBox b cs) := (LS.le.newBox (.refl _) hb cs).only F
theorem LS.only.newRow {S : LS} {b : Nat} (hb : S.fresh b) (F : Nat → Prop) (e : TypeId) (n : Nat) : S.only F (S.newRow b e n) := (LS.le.newRow (.refl _) hb e n).only F
theorem LS.only.setBox {S : LS} {F : Nat → Prop} {b : Nat} (hb : F b) (cs : List LV) : S.only F (S.setBox b cs) where
  box := fun b' x h hx => (box_set_ne S cs (fun e => h (by rw [e]; exact hb))).trans hx
  row := fun b' x _ hx => hx
  obj := fun b' x _ hx => hx
  top := Nat.le_refl _
theorem LS.only.setNew {S S' : LS} {F : Nat → Prop} {b : Nat} (h : S.only F S') (hb : S.box b = Option.none) (cs : List LV) : S.only F (S'.setBox b cs) where
  box := fun b' x hf hx => (box_set_ne S' cs (fun e => by rw [e, hb] at hx; cases hx)).trans (h.box b' x hf hx)
  row := h.row
  obj := h.obj
  top := h.top
theorem LS.only.setObj {S : LS} {F : Nat → Prop} {b : Nat} (hb : F b) (o : Obj) : S.only F (S.setObj b o) where
  box := fun b' x _ hx => hx
  row := fun b' x _ hx => hx
  obj := fun b' x h hx => by
    have hne : b' ≠ b := fun e => h (by rw [e]; exact hb)
    have : Nat.beq b' b = false := by cases hq : Nat.beq b' b with
      | false => rfl
      | true => exact absurd (Nat.eq_of_beq_eq_true hq) hne
    simp only [LS.setObj, this, cond_false]
    exact hx
  top := Nat.le_max_left _ _
theorem LS.only.upto {S S' : LS} {o : Own} {F : Nat → Prop} (h : S.upto o S') (ho : ∀ b, o = .own b → F b) : S.only F S' :=
  ⟨fun b x _ => h.box b x, fun b x hb => h.row b x fun e => hb (ho b e), fun b x _ => h.obj b x, h.top⟩
theorem LS.only.newObj {S : LS} {b : Nat} (hb : S.fresh b) (F : Nat → Prop) (o : Obj) : S.only F (S.setObj b o) where
  box := fun b' x _ hx => hx
  row := fun b' x _ hx => hx
  obj := fun b' x h hx => by
    have hne : b' ≠ b := fun e => by rw [e, hb.obj] at hx; cases hx
    have : Nat.beq b' b = false := by cases hq : Nat.beq b' b with
      | false => rfl
      | true => exact absurd (Nat.eq_of_beq_eq_true hq) hne
    simp only [LS.setObj, this, cond_false]
    exact hx
  top := Nat.le_max_left _ _

/-- Whose row it is lies in F. -/
def OwnIn (F : Nat → Prop) (o : Own) : Prop := ∀ b, o = .own b → F b
theorem Owned.only {S S' : LS} {F : Nat → Prop} {o : Own} {e : TypeId} {n : Nat} (h : Owned S e n o) (k : S.only F S') (ho : ∀ b, o = .own b → ¬ F b) : Owned S' e n o := by
  cases o with
  | nil => exact h
  | sh => exact h
  | own b => exact k.row b _ (ho b rfl) h
theorem MapAt.only {S S' : LS} {F : Nat → Prop} {m : Nat} {al : List (Int × Value)} (h : MapAt S m al) (k : S.only F S') (hm : ¬ F m) : MapAt S' m al := by
  obtain ⟨es, c, h1, h2⟩ := h
  exact ⟨es, c, k.obj m _ hm h1, h2⟩
/-- What is new in a memory. -/
def newIn (S S' : LS) (b : Nat) : Prop := S.top ≤ b ∧ b < S'.top
theorem row_top {S : LS} {b : Nat} {e : TypeId} {n : Nat} (h : S.row b = some (e, n)) (hw : S.wf) : b < S.top := by
  rcases Nat.lt_or_ge b S.top with hlt | hge
  · exact hlt
  · rw [hw.row b hge] at h; cases h
theorem LWp.wf {G : Ctx} {M : Option Nat} {n : Nat} {c : Code} {Q : Exit → (Nat → TV) → LS → Prop} {T : Nat → TV} {S : LS} (h : S.wf → LWp G M n c Q T S) : LWp G M n c Q T S := fun m K w a h1 h2 h3 => h h1.wf m K w a h1 h2 h3
theorem LOps.wf {G : Ctx} {M : Option Nat} {n : Nat} {ops : Array Oper} {l : List Oper} {Q : (Nat → TV) → LS → Prop} {T : Nat → TV} {S : LS} (h : S.wf → LOps G M n ops l Q T S) : LOps G M n ops l Q T S := fun m K w a h1 h2 h3 => h h1.wf m K w a h1 h2 h3
theorem LCalls.wf {G : Ctx} {f : FuncId} {args : List TV} {Q : TV → LS → Prop} {S : LS} (h : S.wf → LCalls G f args Q S) : LCalls G f args Q S := fun K w vals h1 h2 => h h1.wf K w vals h1 h2
/-- Who was there lies below the top. -/
theorem own_lt {S : LS} {o : Own} {e : TypeId} {n : Nat} (h : Owned S e n o) (hw : S.wf) : ∀ b, o = .own b → b < S.top := fun b hb => by
  subst hb; exact row_top h hw
theorem box_lt {S : LS} {b : Nat} {cs : List LV} (h : S.box b = some cs) (hw : S.wf) : b < S.top := by
  rcases Nat.lt_or_ge b S.top with hlt | hge
  · exact hlt
  · rw [hw.box b hge] at h; cases h
/-- A logical memory that a memory stands behind. -/
def LS.sound (S : LS) : Prop := ∃ G K w, Inv G S K w
theorem LS.sound.wf {S : LS} (h : S.sound) : S.wf := by obtain ⟨G, K, w, h⟩ := h; exact h.wf
theorem LS.sound.boxObj {S : LS} (h : S.sound) {b m : Nat} {cs : List LV} {o : Obj} (hb : S.box b = some cs) (hm : S.obj m = some o) : b ≠ m := by
  obtain ⟨G, K, w, h⟩ := h
  rintro rfl
  obtain ⟨_, _, c, T, h1, _⟩ := h.box b cs hb
  obtain ⟨_, _, h2, h3, _⟩ := h.obj b o hm
  rw [h1] at h2
  obtain rfl := Option.some.inj h2
  cases h3
theorem LS.sound.rowObj {S : LS} (h : S.sound) {b m : Nat} {x : TypeId × Nat} {o : Obj} (hb : S.row b = some x) (hm : S.obj m = some o) : b ≠ m := by
  obtain ⟨G, K, w, h⟩ := h
  rintro rfl
  obtain ⟨_, _, _, c, h1, _⟩ := h.row b x.1 x.2 hb
  obtain ⟨_, _, h2, h3, _⟩ := h.obj b o hm
  rw [h1] at h2
  obtain rfl := Option.some.inj h2
  cases h3
theorem LS.sound.boxRow {S : LS} (h : S.sound) {b m : Nat} {cs : List LV} {x : TypeId × Nat} (hb : S.box b = some cs) (hm : S.row m = some x) : b ≠ m := by
  obtain ⟨G, K, w, h⟩ := h
  rintro rfl
  obtain ⟨_, _, h1, _⟩ := h.row b x.1 x.2 hm
  rw [hb] at h1
  cases h1
theorem LWp.sound {G : Ctx} {M : Option Nat} {n : Nat} {c : Code} {Q : Exit → (Nat → TV) → LS → Prop} {T : Nat → TV} {S : LS} (h : S.sound → LWp G M n c Q T S) : LWp G M n c Q T S := fun m K w a h1 h2 h3 => h ⟨G, K, w, h1⟩ m K w a h1 h2 h3
theorem LOps.sound {G : Ctx} {M : Option Nat} {n : Nat} {ops : Array Oper} {l : List Oper} {Q : (Nat → TV) → LS → Prop} {T : Nat → TV} {S : LS} (h : S.sound → LOps G M n ops l Q T S) : LOps G M n ops l Q T S := fun m K w a h1 h2 h3 => h ⟨G, K, w, h1⟩ m K w a h1 h2 h3
theorem LCalls.sound {G : Ctx} {f : FuncId} {args : List TV} {Q : TV → LS → Prop} {S : LS} (h : S.sound → LCalls G f args Q S) : LCalls G f args Q S := fun K w vals h1 h2 => h ⟨G, K, w, h1⟩ K w vals h1 h2
theorem MapAt.neBox {S : LS} (h : S.sound) {b m : Nat} {cs : List LV} {al : List (Int × Value)} (hb : S.box b = some cs) (hm : MapAt S m al) : b ≠ m := by
  obtain ⟨_, _, h1, _⟩ := hm; exact h.boxObj hb h1
theorem MapAt.neOwn {S : LS} (h : S.sound) {o : Own} {m n : Nat} {e : TypeId} {al : List (Int × Value)} (ho : Owned S e n o) (hm : MapAt S m al) : ∀ b, o = .own b → b ≠ m := fun b hb => by
  subst hb; obtain ⟨_, _, h1, _⟩ := hm; exact h.rowObj ho h1
theorem LS.le.newOnly {S S1 S2 : LS} {F : Nat → Prop} (h : S.le S1) (k : S1.only F S2) (hF : ∀ x, F x → S.top ≤ x) (hw : S.wf) : S.le S2 := by
  have hb : ∀ b x, S.box b = some x → ¬ F b := fun b x hx hf => by rw [hw.box b (hF b hf)] at hx; cases hx
  have hr : ∀ b x, S.row b = some x → ¬ F b := fun b x hx hf => by rw [hw.row b (hF b hf)] at hx; cases hx
  have ho : ∀ b x, S.obj b = some x → ¬ F b := fun b x hx hf => by rw [hw.obj b (hF b hf)] at hx; cases hx
  exact ⟨fun b x hx => k.box b x (hb b x hx) (h.box b x hx), fun b x hx => k.row b x (hr b x hx) (h.row b x hx), fun b x hx => k.obj b x (ho b x hx) (h.obj b x hx), Nat.le_trans h.top k.top⟩
/-- A value told in another way. -/
theorem LVal.to {G : Ctx} {o : Oper} {T : Nat → TV} {S : LS} {r r' : TV} (h : LVal G o T S r) (e : r = r') : LVal G o T S r' := e ▸ h
/-- Forgetting whose the value's slices are. -/
theorem LVal.sh {G : Ctx} {o : Oper} {T : Nat → TV} {S : LS} {r : TV} (h : LVal G o T S r) : LVal G o T S (shTV r) := fun K w a hi hr =>
  upon_mono (fun _ _ ⟨v, K', h1, h2, h3, h4⟩ => ⟨v, K', h1, h2.shTV, h3, h4⟩) (fun _ _ _ h => h) (h K w a hi hr)
theorem LVal.shTo {G : Ctx} {o : Oper} {T : Nat → TV} {S : LS} {r r' : TV} (h : LVal G o T S r) (e : shTV r = r') : LVal G o T S r' := e ▸ h.sh
theorem LS.le.none {S S' : LS} (h : S.le S') {b : Nat} (hb : S'.fresh b) : S.box b = Option.none := by
  cases hq : S.box b with
  | none => rfl
  | some x => have := h.box _ _ hq; rw [hb.box] at this; cases this

/-- Forgetting whose a block's slices are. -/
theorem Inv.shBox {G : Ctx} {S : LS} {K : Kept} {w : World} (h : Inv G S K w) {b : Nat} {cs : List LV} (hb : S.box b = some cs) : Inv G (S.setBox b (cs.map shLV)) K w where
  below := h.below
  base := h.base
  live := h.live
  box := fun b' cs' hb' => by
    by_cases e : b' = b
    · subst e
      rw [box_set] at hb'
      obtain rfl := Option.some.inj hb'
      obtain ⟨h1, h2, c, T, h3, h4, h5, h6⟩ := h.box b' cs hb
      refine ⟨h1, h2, c, T, h3, by simpa using h4, fun j x v hj hv => ?_, h6⟩
      rw [List.getElem?_map] at hj
      cases hq : cs[j]? with
      | none => rw [hq] at hj; cases hj
      | some y =>
        rw [hq] at hj
        obtain rfl : LF.shLV y = x := by simpa using hj
        exact (h5 j y v hq hv).shLV
    · rw [box_set_ne _ _ e] at hb'
      exact h.box b' cs' hb'
  row := fun b' T n hr => by
    obtain ⟨h1, h2, h3, h4⟩ := h.row b' T n hr
    refine ⟨h1, h2, ?_, h4⟩
    have e : b' ≠ b := fun e => by rw [e, hb] at h3; cases h3
    rw [box_set_ne _ _ e]; exact h3
  obj := h.obj
  top := h.top
  since := h.since
theorem LOps.shBox {G : Ctx} {M : Option Nat} {n : Nat} {ops : Array Oper} {l : List Oper} {Q : (Nat → TV) → LS → Prop} {T : Nat → TV} {S : LS} {b : Nat} {cs : List LV} (hb : S.box b = some cs) (k : LOps G M n ops l Q T (S.setBox b (cs.map shLV))) : LOps G M n ops l Q T S :=
  fun m K w a h1 h2 h3 => k m K w a (h1.shBox hb) h2 h3
theorem LWp.shBox {G : Ctx} {M : Option Nat} {n : Nat} {c : Code} {Q : Exit → (Nat → TV) → LS → Prop} {T : Nat → TV} {S : LS} {b : Nat} {cs : List LV} (hb : S.box b = some cs) (k : LWp G M n c Q T (S.setBox b (cs.map shLV))) : LWp G M n c Q T S :=
  fun m K w a h1 h2 h3 => k m K w a (h1.shBox hb) h2 h3
theorem LDo.callF {G : Ctx} {o : Oper} {T : Nat → TV} {S : LS} {f : FuncId} {fn : Func} {xs : List Operand} {ts : Array TypeId} {args : List TV} {R : TV → LS → Prop}
    (hc : LCalls G f args R S) (hf : G.P.funcs[f]? = some fn) (ho : o.op = .call { callee := .value (.func f), args := xs.toArray, argTypes := ts } := by rfl) (hx : xs.map (fun x => shTV (lev T x)) = args := by rfl) (hb : fn.body.isSome = true := by rfl) (hn : fn.name ≠ "runtime.NumGoroutine" := by decide) :
    LDo G o T S R := .call ho hx hf hb hn hc
end Go.Proofs.Ytgkjhlmfgaaddaa.LF
end

section
/- What a typed list of cells is; the frame's start. -/
namespace Go.Proofs.Ytgkjhlmfgaaddaa.LF
open Go.RowKit

section
variable {D : Tab} {t : TypeId} {i : TI} {l : List LV}
theorem typed_bool (hi : D.get t = some i) (hd : i.desc = .bool) (h : Typed D t l) : ∃ b, l = [.v (.bool b)] := by
  cases h with
  | bool h1 h2 b => exact ⟨b, rfl⟩
  | int h1 h2 => rw [hi] at h1; obtain rfl := Option.some.inj h1; rw [hd] at h2; cases h2
  | string h1 h2 => rw [hi] at h1; obtain rfl := Option.some.inj h1; rw [hd] at h2; cases h2
  | slice h1 h2 => rw [hi] at h1; obtain rfl := Option.some.inj h1; rw [hd] at h2; cases h2
  | struct h1 h2 => rw [hi] at h1; obtain rfl := Option.some.inj h1; rw [hd] at h2; cases h2
  | array h1 h2 => rw [hi] at h1; obtain rfl := Option.some.inj h1; rw [hd] at h2; cases h2
theorem typed_int {k : IntKind} (hi : D.get t = some i) (hd : i.desc = .int k) (h : Typed D t l) : ∃ n, l = [.v (.int k n)] ∧ (Lit.int k n).wf = true := by
  cases h with
  | bool h1 h2 => rw [hi] at h1; obtain rfl := Option.some.inj h1; rw [hd] at h2; cases h2
  | @int _ _ k' n h1 h2 wf => rw [hi] at h1; obtain rfl := Option.some.inj h1; rw [hd] at h2; cases h2; exact ⟨_, rfl, wf⟩
  | string h1 h2 => rw [hi] at h1; obtain rfl := Option.some.inj h1; rw [hd] at h2; cases h2
  | slice h1 h2 => rw [hi] at h1; obtain rfl := Option.some.inj h1; rw [hd] at h2; cases h2
  | struct h1 h2 => rw [hi] at h1; obtain rfl := Option.some.inj h1; rw [hd] at h2; cases h2
  | array h1 h2 => rw [hi] at h1; obtain rfl := Option.some.inj h1; rw [hd] at h2; cases h2
theorem typed_str (hi : D.get t = some i) (hd : i.desc = .string) (h : Typed D t l) : ∃ s, l = [.v (.string s)] ∧ s.size ≤ 140737488351232 := by
  cases h with
  | bool h1 h2 => rw [hi] at h1; obtain rfl := Option.some.inj h1; rw [hd] at h2; cases h2
  | int h1 h2 => rw [hi] at h1; obtain rfl := Option.some.inj h1; rw [hd] at h2; cases h2
  | string h1 h2 hs => exact ⟨_, rfl, hs⟩
  | slice h1 h2 => rw [hi] at h1; obtain rfl := Option.some.inj h1; rw [hd] at h2; cases h2
  | struct h1 h2 => rw [hi] at h1; obtain rfl := Option.some.inj h1; rw [hd] at h2; cases h2
  | array h1 h2 => rw [hi] at h1; obtain rfl := Option.some.inj h1; rw [hd] at h2; cases h2
theorem typed_slice {e : TypeId} {j : TI} (hi : D.get t = some i) (hd : i.desc = .slice e) (hj : D.get e = some j) (h : Typed D t l) : ∃ es, l = [.sl .sh es] ∧ (∀ c ∈ es, Typed D e c) ∧ (∀ c ∈ es, c.length = j.size) ∧ es.length * j.bytes ≤ 140737488351232 ∧ es.length ≤ maxLen := by
  cases h with
  | bool h1 h2 => rw [hi] at h1; obtain rfl := Option.some.inj h1; rw [hd] at h2; cases h2
  | int h1 h2 => rw [hi] at h1; obtain rfl := Option.some.inj h1; rw [hd] at h2; cases h2
  | string h1 h2 => rw [hi] at h1; obtain rfl := Option.some.inj h1; rw [hd] at h2; cases h2
  | slice h1 h2 h3 h4 h5 h6 h7 =>
    rw [hi] at h1; obtain rfl := Option.some.inj h1; rw [hd] at h2; cases h2
    rw [hj] at h3; obtain rfl := Option.some.inj h3
    exact ⟨_, rfl, h4, h5, h6, h7⟩
  | struct h1 h2 => rw [hi] at h1; obtain rfl := Option.some.inj h1; rw [hd] at h2; cases h2
  | array h1 h2 => rw [hi] at h1; obtain rfl := Option.some.inj h1; rw [hd] at h2; cases h2
theorem typed_struct {fs : Array Field} (hi : D.get t = some i) (hd : i.desc = .struct fs) (h : Typed D t l) : l.length = i.size ∧ ∀ (k : Nat) f j, fs.toList[k]? = some f → D.get f.type = some j → Typed D f.type ((l.drop f.offset).take j.size) := by
  cases h with
  | bool h1 h2 => rw [hi] at h1; obtain rfl := Option.some.inj h1; rw [hd] at h2; cases h2
  | int h1 h2 => rw [hi] at h1; obtain rfl := Option.some.inj h1; rw [hd] at h2; cases h2
  | string h1 h2 => rw [hi] at h1; obtain rfl := Option.some.inj h1; rw [hd] at h2; cases h2
  | slice h1 h2 => rw [hi] at h1; obtain rfl := Option.some.inj h1; rw [hd] at h2; cases h2
  | struct h1 h2 h3 h4 => rw [hi] at h1; obtain rfl := Option.some.inj h1; rw [hd] at h2; cases h2; exact ⟨h3, h4⟩
  | array h1 h2 => rw [hi] at h1; obtain rfl := Option.some.inj h1; rw [hd] at h2; cases h2
end

/-- Lists of typed things, each the image of something. -/
theorem typed_all {α : Type} {D : Tab} {e : TypeId} {f : α → List LV} {es : List (List LV)} (h : ∀ c ∈ es, Typed D e c) (hf : ∀ c, Typed D e c → ∃ x, c = f x) : ∃ xs : List α, es = xs.map f := by
  induction es with
  | nil => exact ⟨[], rfl⟩
  | cons c es ih =>
    obtain ⟨xs, rfl⟩ := ih fun c hc => h c (List.mem_cons_of_mem _ hc)
    obtain ⟨x, rfl⟩ := hf c (h c (by simp))
    exact ⟨x :: xs, rfl⟩

/-- The context of a law's call. -/
abbrev G0 (P : Program) (W : World) : Ctx := { P := P, base := W.heap.size, W0 := W }
end Go.Proofs.Ytgkjhlmfgaaddaa.LF
end

section
/- Arrays. -/
namespace Go.Proofs.Ytgkjhlmfgaaddaa.LF
open Go.RowKit

theorem LVal.buildArr {G : Ctx} {D : Tab} (hD : TabOK G.P D) {o : Oper} {T : Nat → TV} {S : LS} {t e : TypeId} {n : Nat} {ps : List (Nat × Operand)} {lp : List (Nat × List LV)} {l : List LV} {i j : TI} (ho : o.op = .build t ps.toArray)
    (hp : lparts T ps = some lp) (hi : D.get t = some i) (hd : i.desc = .array n e) (hj : D.get e = some j) (hz : i.zero.cells.toList.all Value.oneCell' = true)
    (h : lfill (fun k => some (k * j.size, j.size)) (lzero i) lp = some l) : LVal G o T S (.agg l) :=
  .of_run fun K w ac hi' hr => by
    have e1 := (hD.get hi).und
    rw [hd] at e1
    obtain ⟨p1, p2⟩ := lparts_rep (G := G) (w := w) (K := K) (T := T) (a := ac) ps lp (fun p hp => hr p.2 (by rw [ho]; simp only [Op.operands]; simp only [List.mem_toArray, List.mem_map]; exact ⟨p, by simpa using hp, rfl⟩)) hp
    obtain ⟨cells', f1, f2, f3⟩ := fill_rep lp (ps.map fun p => (p.1, ac.eval p.2)) (lzero i) l i.zero.cells (by simp [lzero]) (lzero_rep G w K hz) p1 p2 h
    refine ⟨.agg cells', ?_, .agg _ _ f2 f3⟩
    simp only [execOp, ho, Instr.build, Sem.run_bind, run_zero' (hD.get hi), Result.andThen_ok, run_underlying e1, run_sizeOf' (hD.get hj), List.map_toArray]
    have hmap : (List.map (fun x : Nat × Operand => match x with | (i, x) => (i, ac.eval x)) ps) = ps.map fun p => (p.1, ac.eval p.2) := rfl
    rw [hmap, f1]
    simp

theorem LVal.indexArr {G : Ctx} {D : Tab} (hD : TabOK G.P D) {o : Oper} {T : Nat → TV} {S : LS} {t e : TypeId} {n m : Nat} {x ix : Operand} {k : IntKind} {l : List LV} {r : TV} {i j : TI} (ho : o.op = .index t x ix)
    (hx : lev T x = .agg l) (hix : lev T ix = .one (.v (.int k (m : Int)))) (hi : D.get t = some i) (hd : i.desc = .array n e) (hj : D.get e = some j) (hm : m < n) (h : readT j (l.drop (m * j.size)) = some r) : LVal G o T S r :=
  .of_run fun K w ac hi' hr => by
    have h1 := hr x (by rw [ho]; simp [Op.operands])
    have h2 := hr ix (by rw [ho]; simp [Op.operands])
    rw [hx] at h1
    rw [hix] at h2
    obtain ⟨vs, hv, hs, hrep⟩ := h1.agg_inv
    have e1 := (hD.get hi).und
    rw [hd] at e1
    obtain ⟨v, hp, hrv⟩ := RepT.part (hD.get hj) hs hrep h
    refine ⟨v, ?_, hrv⟩
    have hm' : (0 : Int) ≤ (m : Int) ∧ (m : Int) < (n : Int) := ⟨by omega, by omega⟩
    simp only [execOp, ho, hv, h2.flat, Instr.index, asIntOf, Sem.run_bind, Sem.run_pure, Result.andThen_ok, run_underlying e1, if_pos hm', Int.toNat_natCast, run_sizeOf' (hD.get hj), hp]
end Go.Proofs.Ytgkjhlmfgaaddaa.LF
end

section
/- Rows of bytes; the smaller of two numbers. -/
namespace Go.Proofs.Ytgkjhlmfgaaddaa.LF
open Go.RowKit

def byL (c : UInt8) : List LV := [.v (.int .u8 (c.toNat : Int))]
theorem byL_len (bs : List UInt8) : ∀ c ∈ bs.map byL, c.length = (1 : Nat) := fun c hc => by
  obtain ⟨x, _, rfl⟩ := List.mem_map.1 hc; rfl

theorem LVal.min {G : Ctx} {o : Oper} {T : Nat → TV} {S : LS} {x y : Operand} {ts : Array TypeId} {k k' : IntKind} {a b : Int} (ho : o.op = .call { callee := .builtin .min, args := #[x, y], argTypes := ts })
    (hx : lev T x = .one (.v (.int k a))) (hy : lev T y = .one (.v (.int k' b))) : LVal G o T S (.one (.v (.int k (if b < a then b else a)))) :=
  .of_run fun K w ac hi hr => by
    have h1 := hr x (by rw [ho]; simp [Op.operands, Call.operands])
    have h2 := hr y (by rw [ho]; simp [Op.operands, Call.operands])
    rw [hx] at h1
    rw [hy] at h2
    refine ⟨_, ?_, .raw rfl⟩
    simp [execOp, ho, resolve, invoke, builtin, Builtin.min_, Builtin.min2, h1.flat, h2.flat]

theorem run_bytesToStr {P : Program} {w : World} {src dst e : TypeId} {b off cap : Nat} {bs : List UInt8} (hs : P.underlying src = some (.slice e)) (he : P.underlying e = some (.int .u8)) (hd : P.underlying dst = some .string)
    (h : ∀ (j : Nat) x, bs[j]? = some x → w.cell? ⟨b, off + j, none⟩ = some (.int .u8 x.toNat)) : (convert src dst (.slice (some ⟨b, off, none⟩) bs.length cap)).run P w = .ok (.string ⟨bs.toArray⟩) w := by
  rw [run_convert_bytes_string w src dst e _ _ _ hs he hd]
  have hl := run_loadCells_list (P := P) w ⟨b, off, none⟩ (bs.map fun b => Value.int .u8 b.toNat) (fun j v hv => by
    rw [List.getElem?_map] at hv
    obtain ⟨x, hb, rfl⟩ := Option.map_eq_some_iff.1 hv
    rw [add_off]; exact h j x hb)
  rw [List.length_map] at hl
  have hl2 := run_bytesToString (P := P) w ⟨b, off, none⟩ bs.length cap (bs.map fun b => (b.toNat : Int)) (by rw [hl]; simp)
  rw [hl2]
  congr 2
  have : ∀ (bs : List UInt8) (acc : ByteArray), (bs.map fun b => (b.toNat : Int)).foldl (fun r n => r.push (UInt8.ofNat n.toNat)) acc = ⟨acc.data ++ bs.toArray⟩ := by
    intro bs
    induction bs with
    | nil => intro acc; simp
    | cons b bs ih =>
      intro acc
      simp only [List.map_cons, List.foldl_cons, Int.toNat_natCast, UInt8.ofNat_toNat]
      rw [ih]
      apply congrArg
      simp [ByteArray.push]
  rw [this]
  simp

/-- A row of bytes as a string. -/
theorem LVal.bytesStr {G : Ctx} {D : Tab} (hD : TabOK G.P D) {o : Oper} {T : Nat → TV} {S : LS} {src dst e : TypeId} {x : Operand} {w0 : Own} {bs : List UInt8} {i j i2 : TI} (ho : o.op = .convert src dst x)
    (hx : lev T x = .one (.sl w0 (bs.map byL))) (hi : D.get src = some i) (hd : i.desc = .slice e) (hj : D.get e = some j) (hdj : j.desc = .int .u8) (hi2 : D.get dst = some i2) (hd2 : i2.desc = .string) : LVal G o T S (.one (.v (.string ⟨bs.toArray⟩))) :=
  .of_run fun K w ac hinv hr => by
    have h1 := hr x (by rw [ho]; simp [Op.operands])
    rw [hx] at h1
    have e1 := (hD.get hi).und
    rw [hd] at e1
    have e2 := (hD.get hj).und
    rw [hdj] at e2
    have e3 := (hD.get hi2).und
    rw [hd2] at e3
    have h2 := h1.of_one
    refine ⟨.string ⟨bs.toArray⟩, ?_, .raw rfl⟩
    have key : (convert src dst (ac.eval x)).run G.P w = .ok (.string ⟨bs.toArray⟩) w := by
      by_cases hne : bs = []
      · subst hne
        have hv : ∃ a cap, ac.eval x = .slice a 0 cap := by
          generalize ac.eval x = v at h2
          cases h2 with
          | nil => exact ⟨none, 0, rfl⟩
          | emp a cap => exact ⟨a, cap, rfl⟩
          | row _ _ b off cap z c => exact ⟨_, _, rfl⟩
        obtain ⟨a, cap, hv⟩ := hv
        rw [hv]
        cases a with
        | none => simp [convert, run_underlying e1, run_underlying e2, run_underlying e3, Conv.bytesToString]; rfl
        | some a =>
          simp [convert, run_underlying e1, run_underlying e2, run_underlying e3, Conv.bytesToString, loadCells]; rfl
      · obtain ⟨b, off, cap, vs, f1, f2, f3, f4, f5⟩ := h2.flat (z := 1) (by omega) (byL_len bs) (by simpa using hne)
        rw [f1, List.length_map]
        refine run_bytesToStr e1 e2 e3 fun q c hq => ?_
        have hcell : cellOf (bs.map byL) q 0 = some (.v (.int .u8 (c.toNat : Int))) := by simp [cellOf, hq, byL]
        obtain ⟨v, g1, g2⟩ := f3.rep _ _ _ hcell
        simp at g1
        have := f4 q v g1
        cases g2
        exact this.1
    simp only [execOp, ho, Sem.run_bind, key, Result.andThen_ok, Sem.run_pure]
end Go.Proofs.Ytgkjhlmfgaaddaa.LF
end

section
/- Numbers put together of bytes. -/
namespace Go.Proofs.Ytgkjhlmfgaaddaa.LF
open Go.RowKit

theorem LVal.shlN {G : Ctx} {o : Oper} {T : Nat → TV} {S : LS} {t u : TypeId} {x y : Operand} {k' : IntKind} {m c : Nat} {b : Int} (ho : o.op = .binOp .shl t x y u)
    (hx : lev T x = .one (.v (.int .i64 (m : Int)))) (hy : lev T y = .one (.v (.int k' b))) (hb : b = (c : Int)) (hc : c ≤ 64) (h : m * 2 ^ c < 9223372036854775808) : LVal G o T S (.one (.v (.int .i64 ((m * 2 ^ c : Nat) : Int)))) :=
  .of_run fun K w ac hi hr => by
    subst hb
    have h1 := hr x (by rw [ho]; simp [Op.operands])
    have h2 := hr y (by rw [ho]; simp [Op.operands])
    rw [hx] at h1
    rw [hy] at h2
    refine ⟨.int .i64 ((m * 2 ^ c : Nat) : Int), ?_, .raw rfl⟩
    have e1 : Min.min c IntKind.i64.bits = c := Nat.min_eq_left hc
    have e2 : (m : Int) * 2 ^ c = ((m * 2 ^ c : Nat) : Int) := by push_cast; rfl
    have e3 : IntKind.i64.wrap ((m * 2 ^ c : Nat) : Int) = ((m * 2 ^ c : Nat) : Int) := IntWalk.i64_in _ ⟨by omega, by omega⟩
    have key : (Go.binOp .shl t (.int .i64 (m : Int)) (.int k' (c : Int))).run G.P w = .ok (.int .i64 ((m * 2 ^ c : Nat) : Int)) w := by
      simp only [Go.binOp, Op.shift]
      rw [if_neg (by omega)]
      simp only [Int.toNat_natCast, e1, e2, e3, Sem.run_pure]
    simp only [execOp, ho, h1.flat, h2.flat, Sem.run_bind, eqGuard_flat (by simp : ∀ xs, Value.int .i64 (m : Int) ≠ .agg xs) (by simp), Result.andThen_ok, key, Sem.run_pure]

theorem LVal.orN {G : Ctx} {o : Oper} {T : Nat → TV} {S : LS} {t u : TypeId} {x y : Operand} {a m c : Nat} (ho : o.op = .binOp .or t x y u)
    (hx : lev T x = .one (.v (.int .i64 (a : Int)))) (hy : lev T y = .one (.v (.int .i64 ((m * 2 ^ c : Nat) : Int)))) (ha : a < 2 ^ c) (h : a + m * 2 ^ c < 9223372036854775808) : LVal G o T S (.one (.v (.int .i64 ((a + m * 2 ^ c : Nat) : Int)))) := by
  have h0 := LVal.binOp (G := G) (S := S) (D := []) (fun _ h => by cases h) ho hx hy (v := .int .i64 (IntKind.i64.wrap ((BitVec.ofInt 64 (a : Int) ||| BitVec.ofInt 64 ((m * 2 ^ c : Nat) : Int)).toNat : Int))) rfl
  have e : (BitVec.ofInt 64 (a : Int) ||| BitVec.ofInt 64 ((m * 2 ^ c : Nat) : Int)).toNat = a + m * 2 ^ c := by
    rw [BitVec.toNat_or, BitVec.ofInt_natCast, BitVec.ofInt_natCast, BitVec.toNat_ofNat, BitVec.toNat_ofNat, Nat.mod_eq_of_lt (by omega), Nat.mod_eq_of_lt (by omega)]
    have := Nat.shiftLeft_add_eq_or_of_lt ha m
    rw [Nat.shiftLeft_eq] at this
    rw [Nat.or_comm, ← this, Nat.add_comm]
  rw [e, IntWalk.i64_in _ ⟨by omega, by omega⟩] at h0
  exact h0
end Go.Proofs.Ytgkjhlmfgaaddaa.LF
end

section
/- Slices whose cells may be written: values of slices that lead into boxes. -/
namespace Go.Proofs.Ytgkjhlmfgaaddaa.LF
open Go.RowKit

abbrev rsl (b off n c : Nat) : LV := .v (.slice (some ⟨b, off, none⟩) n c)

/-- What a slice has: so many elements, their cells. -/
inductive SrcL (S : LS) (z : Nat) : LV → Nat → List LV → Prop
  | raw (b off n c : Nat) (cs : List LV) (hb : S.box b = some cs) (h : off + n * z ≤ cs.length) : SrcL S z (rsl b off n c) n ((cs.drop off).take (n * z))
  | sl (o : Own) (es : List (List LV)) (hz : ∀ e ∈ es, e.length = z) : SrcL S z (.sl o es) es.length es.flatten

theorem flatten_length {z : Nat} : ∀ {es : List (List LV)}, (∀ e ∈ es, e.length = z) → es.flatten.length = es.length * z := by
  intro es
  induction es with
  | nil => intro _; simp
  | cons e es ih =>
    intro h
    rw [List.flatten_cons, List.length_append, h e (by simp), ih fun x hx => h x (List.mem_cons_of_mem _ hx), List.length_cons, Nat.add_mul, Nat.one_mul, Nat.add_comm]
theorem flatten_get {z : Nat} : ∀ {es : List (List LV)}, (∀ e ∈ es, e.length = z) → ∀ (i j : Nat), j < z → es.flatten[i * z + j]? = cellOf es i j := by
  intro es
  induction es with
  | nil => intro _ i j _; simp [cellOf]
  | cons e es ih =>
    intro h i j hj
    have he := h e (by simp)
    rw [List.flatten_cons]
    cases i with
    | zero =>
      rw [Nat.zero_mul, Nat.zero_add, List.getElem?_append_left (by omega)]
      rfl
    | succ i =>
      rw [Nat.add_mul, Nat.one_mul, List.getElem?_append_right (by omega), show i * z + z + j - e.length = i * z + j by omega, ih (fun x hx => h x (List.mem_cons_of_mem _ hx)) i j hj]
      rfl

/-- What stands behind it. -/
theorem SrcL.run {G : Ctx} {S : LS} {K : Kept} {w : World} (hi : Inv G S K w) {z : Nat} (hz0 : 0 < z) {x : LV} {n : Nat} {l : List LV} (h : SrcL S z x n l) {v : Value} (hr : Rep G w K x v) :
    ∃ (a : Option Addr) (c : Nat) (vs : List Value), v = .slice a n c ∧ vs.length = n * z ∧ l.length = n * z ∧ (∀ (j : Nat) y u, l[j]? = some y → vs[j]? = some u → Rep G w K y u) ∧ (n ≠ 0 → a.isSome = true) ∧ ∀ a', a = some a' → ∀ (j : Nat) u, vs[j]? = some u → w.cell? (a'.add j) = some u := by
  cases h with
  | raw b off _ c cs hb hl =>
    cases hr with
    | raw _ h1 =>
      obtain ⟨cur, T, c1, c2, c3⟩ := hi.cells hb
      have hlen : ((cs.drop off).take (n * z)).length = n * z := by rw [List.length_take, List.length_drop]; omega
      have hlen2 : ((cur.toList.drop off).take (n * z)).length = n * z := by rw [List.length_take, List.length_drop, Array.length_toList]; omega
      refine ⟨_, _, (cur.toList.drop off).take (n * z), rfl, hlen2, hlen, fun j y u hj hu => ?_, fun _ => rfl, fun a' ha j u hu => ?_⟩
      · have hjl := (List.getElem?_eq_some_iff.1 hj).1
        rw [hlen] at hjl
        rw [List.getElem?_take, if_pos hjl, List.getElem?_drop] at hj hu
        obtain ⟨v, d1, d2, d3⟩ := c3 _ y hj
        rw [Array.getElem?_toList, d1] at hu
        obtain rfl : v = u := by simpa using hu
        exact d3
      · obtain rfl : ⟨b, off, none⟩ = a' := by simpa using ha
        have hjl := (List.getElem?_eq_some_iff.1 hu).1
        rw [hlen2] at hjl
        rw [List.getElem?_take, if_pos hjl, List.getElem?_drop, Array.getElem?_toList] at hu
        rw [add_off, cell_of_row w b (off + j) cur T (0, 0) c1]
        exact hu
  | sl o es hz =>
    by_cases hne : es = []
    · subst hne
      cases hr with
      | nil => exact ⟨none, 0, [], rfl, by simp, by simp, by simp, by simp, by simp⟩
      | emp a cap => exact ⟨a, cap, [], rfl, by simp, by simp, by simp, by simp, by simp⟩
      | row _ _ b off cap z' c => exact ⟨some ⟨b, off, none⟩, cap, [], rfl, by simp, by simp, by simp, by simp, by simp⟩
    · obtain ⟨b, off, cap, vs, h1, h2, h3, h4, _⟩ := hr.flat hz0 hz hne
      have hfl := flatten_length hz
      refine ⟨_, _, vs, h1, h3.len, hfl, fun j y u hj hu => ?_, fun _ => rfl, fun a' ha j u hu => ?_⟩
      · have hjl := (List.getElem?_eq_some_iff.1 hj).1
        have hd : j / z * z + j % z = j := by rw [Nat.mul_comm]; exact Nat.div_add_mod j z
        rw [← hd, flatten_get hz _ _ (Nat.mod_lt _ hz0)] at hj
        obtain ⟨v, e1, e2⟩ := h3.rep _ _ y hj
        rw [hd, hu] at e1
        obtain rfl : u = v := by simpa using e1
        exact e2
      · obtain rfl : ⟨b, off, none⟩ = a' := by simpa using ha
        rw [add_off]; exact (h4 j u hu).1

theorem SrcL.one {G : Ctx} {w : World} {K : Kept} {l : List LV} {vs : List Value} (hl : vs.length = l.length) (h : ∀ (j : Nat) y u, l[j]? = some y → vs[j]? = some u → Rep G w K y u) : ∀ u ∈ vs, u.oneCell' = true := fun u hu => by
  obtain ⟨j, hj⟩ := List.getElem?_of_mem hu
  have := (List.getElem?_eq_some_iff.1 hj).1
  exact (h j _ u (List.getElem?_eq_getElem (by omega)) hj).oneCell

/-- The kit's word for what is appended. -/
theorem SrcL.src {G : Ctx} {S : LS} {K : Kept} {w : World} (hi : Inv G S K w) {z : Nat} (hz0 : 0 < z) {x : LV} {n : Nat} {l : List LV} (h : SrcL S z x n l) {v : Value} (hr : Rep G w K x v) {tx e' : TypeId} (hk : G.P.underlying tx = some (.slice e')) :
    ∃ (a : Option Addr) (c : Nat) (vs : List Value), v = .slice a n c ∧ vs.length = n * z ∧ l.length = n * z ∧ (∀ (j : Nat) y u, l[j]? = some y → vs[j]? = some u → Rep G w K y u) ∧ Src G.P z tx v n vs w := by
  obtain ⟨a, c, vs, h1, h2, h3, h4, h5, h6⟩ := h.run hi hz0 hr
  have one := SrcL.one (by rw [h2, h3]) h4
  refine ⟨a, c, vs, h1, h2, h3, h4, ?_⟩
  rw [h1]
  cases a with
  | some a => exact Src.ofSlice w hk a n c vs h2 (h6 a rfl) one
  | none =>
    obtain rfl : n = 0 := by
      rcases Nat.eq_zero_or_pos n with h | h
      · exact h
      · simp at h5; omega
    obtain rfl : vs = [] := List.length_eq_zero_iff.1 (by omega)
    exact Src.ofNil w hk c

/-- Elements of zero. -/
def zrow (j : TI) (n : Nat) : List LV := (List.replicate n (lzero j)).flatten
theorem zrow_length (j : TI) (n : Nat) : (zrow j n).length = n * j.zero.cells.size := by
  induction n with
  | zero => simp [zrow]
  | succ n ih =>
    unfold zrow at ih ⊢
    rw [List.replicate_succ, List.flatten_cons, List.length_append, ih, Nat.add_mul]
    simp [lzero]; omega
theorem zeroCells_toList (z : Array Value) (n : Nat) : (Builtin.zeroCells z n).toList = (List.replicate n z.toList).flatten := by
  have hz : (List.range z.size).map (fun i => z[i]!) = z.toList := by
    apply List.ext_getElem?
    intro i
    rw [List.getElem?_map]
    by_cases h : i < z.size
    · rw [List.getElem?_range h]; simp [h]
    · rw [List.getElem?_eq_none (by simp; omega)]; simp; omega
  have key : ∀ n, (List.range (n * z.size)).map (fun i => z[i % z.size]!) = (List.replicate n z.toList).flatten := by
    intro n
    induction n with
    | zero => simp
    | succ n ih =>
      rw [Nat.add_mul, Nat.one_mul, List.range_add, List.map_append, ih, List.replicate_succ', List.flatten_append, List.map_map]
      congr 1
      rw [List.flatten_cons, List.flatten_nil, List.append_nil, ← hz]
      apply List.map_congr_left
      intro i hi
      have hi : i < z.size := by simpa using hi
      simp only [Function.comp_apply]
      rw [Nat.mul_comm n, Nat.mul_add_mod, Nat.mod_eq_of_lt hi]
  simp only [Builtin.zeroCells]
  rw [← key n]
  simp
theorem zrow_rep (G : Ctx) (w : World) (K : Kept) {j : TI} (hz : j.zero.cells.toList.all Value.oneCell' = true) (n : Nat) : ∀ (q : Nat) x v, (zrow j n)[q]? = some x → (Builtin.zeroCells j.zero.cells n)[q]? = some v → Rep G w K x v := by
  intro q x v hx hv
  rw [← Array.getElem?_toList, zeroCells_toList] at hv
  have e : zrow j n = ((List.replicate n j.zero.cells.toList).flatten).map constLV := by
    simp [zrow, lzero, List.map_flatten]
  rw [e, List.getElem?_map, hv] at hx
  simp only [Option.map_some, Option.some.injEq] at hx
  subst hx
  refine constLV_rep G w K v ?_
  have hm := List.mem_of_getElem? hv
  simp only [List.mem_flatten, List.mem_replicate] at hm
  obtain ⟨l, ⟨_, rfl⟩, hm⟩ := hm
  exact List.all_eq_true.1 hz v hm

theorem append_get_rep {G : Ctx} {w : World} {K : Kept} {l l2 : List LV} {vs vs2 : List Value} (hl : vs.length = l.length) (h : ∀ (j : Nat) y u, l[j]? = some y → vs[j]? = some u → Rep G w K y u) (h2 : ∀ (j : Nat) y u, l2[j]? = some y → vs2[j]? = some u → Rep G w K y u) :
    ∀ (j : Nat) y u, (l ++ l2)[j]? = some y → (vs ++ vs2)[j]? = some u → Rep G w K y u := fun j y u hy hu => by
  by_cases hj : j < l.length
  · rw [List.getElem?_append_left hj] at hy
    rw [List.getElem?_append_left (by omega)] at hu
    exact h j y u hy hu
  · rw [List.getElem?_append_right (by omega)] at hy
    rw [List.getElem?_append_right (by omega), hl] at hu
    exact h2 _ y u hy hu

theorem splice_nil (cs : List LV) (off : Nat) : splice cs off [] = cs := by simp [splice]

section
variable {G : Ctx} {D : Tab} (hD : TabOK G.P D) {o : Oper} {T : Nat → TV} {S : LS} {t e : TypeId} {i j : TI}
include hD

theorem LVal.lenR {x : Operand} {a : Option Addr} {n c : Nat} (ho : o.op = .call { callee := .builtin .len, args := #[x], argTypes := #[t] })
    (hx : lev T x = .one (.v (.slice a n c))) (hi : D.get t = some i) (hd : i.desc = .slice e) : LVal G o T S (.one (.v (.int .i64 (n : Nat)))) :=
  .of_run fun K w ac hi' hr => by
    have h1 := hr x (by rw [ho]; simp [Op.operands, Call.operands])
    rw [hx] at h1
    have e1 := (hD.get hi).und
    rw [hd] at e1
    refine ⟨_, ?_, .raw rfl⟩
    simp [execOp, ho, resolve, invoke, builtin, h1.flat, Builtin.len_, run_underlying e1, goInt]
theorem LVal.capR {x : Operand} {a : Option Addr} {n c : Nat} (ho : o.op = .call { callee := .builtin .cap, args := #[x], argTypes := #[t] })
    (hx : lev T x = .one (.v (.slice a n c))) (hi : D.get t = some i) (hd : i.desc = .slice e) : LVal G o T S (.one (.v (.int .i64 (c : Nat)))) :=
  .of_run fun K w ac hi' hr => by
    have h1 := hr x (by rw [ho]; simp [Op.operands, Call.operands])
    rw [hx] at h1
    have e1 := (hD.get hi).und
    rw [hd] at e1
    refine ⟨_, ?_, .raw rfl⟩
    simp [execOp, ho, resolve, invoke, builtin, h1.flat, Builtin.cap_, run_underlying e1, goInt]
/-- An element's place. -/
theorem LVal.indexR {x ix : Operand} {b off n c : Nat} {k : IntKind} {m : Int} (ho : o.op = .indexAddr t x ix)
    (hx : lev T x = .one (rsl b off n c)) (hix : lev T ix = .one (.v (.int k m))) (hi : D.get t = some i) (hd : i.desc = .slice e) (hj : D.get e = some j) (h0 : 0 ≤ m) (hm : m < (n : Int)) :
    LVal G o T S (.one (.v (.pointer (some ⟨b, off + m.toNat * j.size, none⟩)))) :=
  .of_run fun K w ac hi' hr => by
    have h1 := hr x (by rw [ho]; simp [Op.operands])
    have h2 := hr ix (by rw [ho]; simp [Op.operands])
    rw [hx] at h1
    rw [hix] at h2
    have e1 := (hD.get hi).und
    rw [hd] at e1
    have hb : 0 ≤ m ∧ m < (n : Int) := ⟨h0, hm⟩
    refine ⟨_, ?_, .raw rfl⟩
    simp only [execOp, ho, h1.flat, h2.flat, Instr.indexAt, Sem.run_bind, asIntOf, Sem.run_pure, Result.andThen_ok, run_underlying e1, hb, and_self, if_true, run_sizeOf' (hD.get hj), add_off]
/-- A slice held against nil. -/
theorem LVal.eqNilR {x : Operand} {u : TypeId} {a : Addr} {n c : Nat} (ho : o.op = .binOp .eql t x (.const (.slice none 0 0)) u) (hx : lev T x = .one (.v (.slice (some a) n c))) (hi : D.get t = some i) (hd : i.desc = .slice e) : LVal G o T S (.one (.v (.bool false))) :=
  .of_run fun K w ac hi' hr => by
    have h1 := hr x (by rw [ho]; simp [Op.operands])
    rw [hx] at h1
    have e1 := (hD.get hi).und
    rw [hd] at e1
    have e2 : ac.eval (.const (.slice none 0 0)) = .slice none 0 0 := rfl
    have : (Op.equal t (.slice (some a) n c) (.slice none 0 0)).run G.P w = .ok false w := by
      have k2 : ∀ d, (Op.equalIn (d + 1) t (.slice (some a) n c) (.slice none 0 0)).run G.P w = .ok false w := fun d => by simp [Op.equalIn, run_underlying e1]
      exact k2 9999
    refine ⟨_, ?_, .raw rfl⟩
    simp only [execOp, ho, h1.flat, e2, Sem.run_bind, eqGuard_flat (a := .slice (some a) n c) (by simp) (by simp), Result.andThen_ok, Go.binOp, this, Sem.run_pure]
end

end Go.Proofs.Ytgkjhlmfgaaddaa.LF
end

section
/- Slices whose cells may be written: parts, append, copy, clear; literals; library functions without text. -/
namespace Go.Proofs.Ytgkjhlmfgaaddaa.LF
open Go.RowKit

/-- A bound of a slice expression, where there are three. -/
theorem run_bounds3 {G : Ctx} {w : World} {K : Kept} {T : Nat → TV} {a : Act} {lo hi : Option Operand} {mx : Operand} {k : IntKind} {l h m : Int} {isS : Bool} {len cap : Nat} (hlo : ∀ x, lo = some x → RepT G w K (lev T x) (a.eval x)) (hhi : ∀ x, hi = some x → RepT G w K (lev T x) (a.eval x))
    (hm : a.eval mx = .int k m) (el : bnd T 0 lo = some l) (hs : hi.isSome = true) (eh : bnd T len hi = some h) (h0 : 0 ≤ l) (h1 : l ≤ h) (h2 : h ≤ m) (h3 : m ≤ cap) :
    (Instr.sliceBounds isS len cap (lo.map a.eval) (hi.map a.eval) (some (a.eval mx))).run G.P w = .ok (l.toNat, h.toNat, m.toNat) w := by
  unfold Instr.sliceBounds
  cases hi with
  | none => cases hs
  | some x =>
    obtain ⟨k1, e1⟩ := bnd_spec (hhi x rfl) eh
    have r1 : ∀ c, (Instr.sliceBound (.int k m) cap c).run G.P w = .ok m.toNat w := fun c => run_sliceBound (by omega) (by omega)
    have r2 : ∀ c, (Instr.sliceBound (.int k1 h) m.toNat c).run G.P w = .ok h.toNat w := fun c => run_sliceBound (by omega) (by omega)
    cases lo with
    | none =>
      obtain rfl : (0 : Int) = l := by simpa [bnd] using el
      simp only [Option.map_some, Option.map_none, hm, e1, Sem.run_bind, r1, r2, Result.andThen_ok, Sem.run_pure]
      rfl
    | some y =>
      obtain ⟨k2, e2⟩ := bnd_spec (hlo y rfl) el
      have r3 : ∀ c, (Instr.sliceBound (.int k2 l) h.toNat c).run G.P w = .ok l.toNat w := fun c => run_sliceBound (by omega) (by omega)
      simp only [Option.map_some, hm, e1, e2, Sem.run_bind, r1, r2, r3, Result.andThen_ok, Sem.run_pure]

/-- Where a part begins: a part without room begins where the slice did. -/
def partOff (off l m z : Nat) : Nat := if m = l then off else off + l * z

section
variable {G : Ctx} {D : Tab} (hD : TabOK G.P D) {o : Oper} {T : Nat → TV} {S : LS} {t e : TypeId} {i j : TI}
include hD

theorem LVal.sliceR {x : Operand} {lo hi : Option Operand} {b off n c : Nat} {l h : Nat} (ho : o.op = .slice t x lo hi none)
    (hx : lev T x = .one (rsl b off n c)) (hi' : D.get t = some i) (hd : i.desc = .slice e) (hj : D.get e = some j) (el : bnd T 0 lo = some (l : Int)) (eh : bnd T (n : Nat) hi = some (h : Int)) (h1 : l ≤ h) (h2 : h ≤ c) :
    LVal G o T S (.one (rsl b (partOff off l c j.size) (h - l) (c - l))) :=
  .of_run fun K w ac hi'' hr => by
    have r1 := hr x (by rw [ho]; simp [Op.operands])
    rw [hx] at r1
    have e1 := (hD.get hi').und
    rw [hd] at e1
    have rlo : ∀ x, lo = some x → RepT G w K (lev T x) (ac.eval x) := fun x hx => hr x (by rw [ho, hx]; simp [Op.operands])
    have rhi : ∀ x, hi = some x → RepT G w K (lev T x) (ac.eval x) := fun x hx => hr x (by rw [ho, hx]; simp [Op.operands])
    have hb := run_bounds (isS := true) (len := n) (cap := c) rlo rhi el eh (by omega) (by omega) (by omega)
    simp only [Int.toNat_natCast] at hb
    refine ⟨_, ?_, .raw rfl⟩
    have h3 := sliceAt_slice (w := w) e1 (.slice (some ⟨b, off, none⟩) n c) (lo.map ac.eval) (hi.map ac.eval) none
    simp only [execOp, ho, Sem.run_bind, Option.map_none, r1.flat, h3, Instr.slice, run_underlying e1, Result.andThen_ok, hb, run_sizeOf' (hD.get hj), Sem.run_pure, Option.map_some, add_off, partOff]
    congr 3
    split <;> rfl
theorem LVal.slice3R {x : Operand} {lo hi : Option Operand} {mx : Operand} {b off n c : Nat} {k : IntKind} {l h m : Nat} (ho : o.op = .slice t x lo hi (some mx))
    (hx : lev T x = .one (rsl b off n c)) (hi' : D.get t = some i) (hd : i.desc = .slice e) (hj : D.get e = some j) (el : bnd T 0 lo = some (l : Int)) (hs : hi.isSome = true) (eh : bnd T (n : Nat) hi = some (h : Int)) (em : lev T mx = .one (.v (.int k (m : Int)))) (h1 : l ≤ h) (h2 : h ≤ m) (h3 : m ≤ c) :
    LVal G o T S (.one (rsl b (partOff off l m j.size) (h - l) (m - l))) :=
  .of_run fun K w ac hi'' hr => by
    have r1 := hr x (by rw [ho]; simp [Op.operands])
    have r2 := hr mx (by rw [ho]; simp [Op.operands])
    rw [hx] at r1
    rw [em] at r2
    have e1 := (hD.get hi').und
    rw [hd] at e1
    have rlo : ∀ x, lo = some x → RepT G w K (lev T x) (ac.eval x) := fun x hx => hr x (by rw [ho, hx]; simp [Op.operands])
    have rhi : ∀ x, hi = some x → RepT G w K (lev T x) (ac.eval x) := fun x hx => hr x (by rw [ho, hx]; simp [Op.operands])
    have hb := run_bounds3 (isS := true) (len := n) (cap := c) rlo rhi r2.flat el hs eh (by omega) (by omega) (by omega) (by omega)
    simp only [Int.toNat_natCast] at hb
    refine ⟨_, ?_, .raw rfl⟩
    have h3 := sliceAt_slice (w := w) e1 (.slice (some ⟨b, off, none⟩) n c) (lo.map ac.eval) (hi.map ac.eval) (some (ac.eval mx))
    simp only [execOp, ho, Sem.run_bind, Option.map_some, r1.flat, h3, Instr.slice, run_underlying e1, Result.andThen_ok, hb, run_sizeOf' (hD.get hj), Sem.run_pure, add_off, partOff]
    congr 3
    split <;> rfl

/-- append where there is room: the box is written. -/
theorem LDo.appendRoomR {s x : Operand} {b off n c m : Nat} {cs l : List LV} {xx : LV} (ho : o.op = .call { callee := .builtin .append, args := #[s, x], argTypes := #[t, t] })
    (hs : lev T s = .one (rsl b off n c)) (hx : lev T x = .one xx) (hi : D.get t = some i) (hd : i.desc = .slice e) (hj : D.get e = some j) (hsz : Nat.blt 0 j.size = true)
    (hb : S.box b = some cs) (hl : off + c * j.size ≤ cs.length) (hsrc : SrcL S j.size xx m l) (hroom : n + m ≤ c) :
    LDo G o T S (fun r S' => r = .one (rsl b off (n + m) c) ∧ S' = S.setBox b (splice cs (off + n * j.size) l)) :=
  .of_run fun K w ac hi' hr => by
    have h1 := hr s (by rw [ho]; simp [Op.operands, Call.operands])
    have h2 := hr x (by rw [ho]; simp [Op.operands, Call.operands])
    rw [hs] at h1
    rw [hx] at h2
    have e1 := (hD.get hi).und
    rw [hd] at e1
    have hsz' : 0 < j.size := by simpa [Nat.blt_eq] using hsz
    obtain ⟨ji, q1, q2, q3, q4⟩ := (hD.get hj).info
    obtain ⟨a, c', vs, g1, g2, g3, g4, g5⟩ := hsrc.src hi' hsz' h2.of_one e1
    obtain ⟨cur, T0, c1, c2, _⟩ := hi'.cells hb
    have hfit : off + n * j.size + vs.length ≤ cur.size := by
      have : (n + m) * j.size ≤ c * j.size := Nat.mul_le_mul_right _ hroom
      rw [Nat.add_mul] at this
      rw [c2, g2]; omega
    have hst := run_storeCells_at G.P b (off + n * j.size) T0 vs 0 cur w c1 (by simpa using hfit) (SrcL.one (by rw [g2, g3]) g4)
    simp only [Nat.add_zero] at hst
    have hrun : (Builtin.append_ #[t, t] o.type #[ac.eval s, ac.eval x]).run G.P w = .ok (.slice (some ⟨b, off, none⟩) (n + m) c) (w.setRow b (cur.toList.take (off + n * j.size) ++ vs ++ cur.toList.drop (off + n * j.size + vs.length)).toArray) := by
      have hc := g5.cells
      have hl' := g5.len
      rw [h1.flat]
      simp [Builtin.append_, run_underlying e1, run_sizeOf' (hD.get hj), hl', hroom, hc, Addr.add_lit, hst]
    obtain ⟨k1, k2⟩ := hi'.setBox hb (off := off + n * j.size) (l := l) (by rw [g3, ← g2, ← c2]; exact hfit) (vs := vs) (by rw [g2, g3]) g4 cur T0 c1
    refine ⟨_, _, _, _, _, ?_, .raw rfl, k1, k2, rfl, rfl⟩
    simp [execOp, ho, resolve, invoke, builtin, hrun]

/-- append where there is none: a new box. -/
theorem LDo.appendGrowR {s x : Operand} {n c m : Nat} {l l2 : List LV} {xs xx : LV} (ho : o.op = .call { callee := .builtin .append, args := #[s, x], argTypes := #[t, t] })
    (hs : lev T s = .one xs) (hx : lev T x = .one xx) (hi : D.get t = some i) (hd : i.desc = .slice e) (hj : D.get e = some j) (hsz : Nat.blt 0 j.size = true) (hz : j.zero.cells.toList.all Value.oneCell' = true) (hby : Nat.ble j.bytes 1024 = true)
    (hcap : (∃ a, xs = .v (.slice a n c)) ∨ (xs = .sl .nil [] ∧ c = 0)) (h1 : SrcL S j.size xs n l) (h2 : SrcL S j.size xx m l2) (hg : c < n + m) (hbig : n + m ≤ 100000000) :
    LDo G o T S (fun r S' => ∃ b' c', S.fresh b' ∧ n + m ≤ c' ∧ r = .one (rsl b' 0 (n + m) c') ∧ S' = S.newBox b' (l ++ l2 ++ zrow j (c' - (n + m)))) :=
  .of_run fun K w ac hi' hr => by
    have r1 := hr s (by rw [ho]; simp [Op.operands, Call.operands])
    have r2 := hr x (by rw [ho]; simp [Op.operands, Call.operands])
    rw [hs] at r1
    rw [hx] at r2
    have e1 := (hD.get hi).und
    rw [hd] at e1
    have hsz' : 0 < j.size := by simpa [Nat.blt_eq] using hsz
    have hby' : j.bytes ≤ 1024 := Nat.le_of_ble_eq_true hby
    obtain ⟨ji, q1, q2, q3, q4⟩ := (hD.get hj).info
    obtain ⟨a, c0, vs, g1, g2, g3, g4, g5⟩ := h1.src hi' hsz' r1.of_one e1
    obtain ⟨a', c0', vs', f1, f2, f3, f4, f5⟩ := h2.src hi' hsz' r2.of_one e1
    have hc0 : c0 = c := by
      rcases hcap with ⟨a1, rfl⟩ | ⟨rfl, rfl⟩
      · have := r1.flat
        rw [g1] at this
        injection this
      · have := r1.of_one
        rw [g1] at this
        cases this with
        | nil => rfl
        | row _ _ b off cap z c hn => exact absurd rfl hn
    subst hc0
    have hbytes : (n + m) * j.bytes ≤ 140737488355328 := Nat.le_trans (Nat.mul_le_mul hbig hby') (by decide)
    have hrun := run_append_grow_src (P := G.P) w t t o.type e ji j.zero e1 q1 q4 a n c0 vs (by rw [q2]; rw [g1] at g5; exact g5.cellsD) (ac.eval x) m vs' (by rw [q2]; exact f5) hg (by omega) (by rw [q3]; exact growslice_fits hg hbytes)
    have hge := grownCap_ge w (n + m) c0 e
    have hinv := hi'.drew.newBox ((vs ++ vs').toArray ++ Builtin.zeroCells j.zero.cells (grownCap w (n + m) c0 e - (n + m))) e (l ++ l2 ++ zrow j (grownCap w (n + m) c0 e - (n + m))) (by
        rw [Array.size_append, List.size_toArray, List.length_append, List.length_append, List.length_append, g2, g3, f2, f3, zrow_length, size_zeroCells]) (fun q y u hy hu => by
        have hlv : (vs ++ vs').length = (l ++ l2).length := by rw [List.length_append, List.length_append, g2, g3, f2, f3]
        refine Rep.mono (.drew K w) (append_get_rep (vs := vs ++ vs') (vs2 := (Builtin.zeroCells j.zero.cells (grownCap w (n + m) c0 e - (n + m))).toList) hlv (append_get_rep (by rw [g2, g3]) g4 f4) (fun q y u hy hu => zrow_rep G w K hz _ q y u hy (by simpa using hu)) q y u hy ?_)
        rw [← Array.getElem?_toList, Array.toList_append] at hu
        exact hu)
    have hext : Ext K w K (w.drew.alloc (.cells ((vs ++ vs').toArray ++ Builtin.zeroCells j.zero.cells (grownCap w (n + m) c0 e - (n + m))) e)) := (Ext.drew K w).trans (Ext.alloc hi'.drew _)
    refine ⟨_, _, _, _, _, ?_, .raw rfl, hinv, hext, w.heap.size, grownCap w (n + m) c0 e, hi'.fresh, hge, rfl, rfl⟩
    rw [← g1] at hrun
    simp [execOp, ho, resolve, invoke, builtin, hrun]

/-- append of zeros onto a part, where there is no room. -/
theorem LDo.appendZerosR {s x : Operand} {b off n c m : Nat} {k : IntKind} {l : List LV} {tn : TypeId} {in' : TI} {kn : IntKind} (ho : o.op = .call { callee := .builtin .append, args := #[s, x], argTypes := #[t, tn] })
    (hs : lev T s = .one (rsl b off n c)) (hx : lev T x = .one (.v (.int k (m : Int)))) (hi : D.get t = some i) (hd : i.desc = .slice e) (hj : D.get e = some j) (hn : D.get tn = some in') (hdn : in'.desc = .int kn) (hsz : Nat.blt 0 j.size = true) (hz : j.zero.cells.toList.all Value.oneCell' = true) (hby : Nat.ble j.bytes 1024 = true)
    (h1 : SrcL S j.size (rsl b off n c) n l) (h0 : 0 < m) (hg : c < n + m) (hbig : n + m ≤ 100000000) :
    LDo G o T S (fun r S' => ∃ b' c', S.fresh b' ∧ n + m ≤ c' ∧ r = .one (rsl b' 0 (n + m) c') ∧ S' = S.newBox b' (l ++ zrow j m ++ zrow j (c' - (n + m)))) :=
  .of_run fun K w ac hi' hr => by
    have r1 := hr s (by rw [ho]; simp [Op.operands, Call.operands])
    have r2 := hr x (by rw [ho]; simp [Op.operands, Call.operands])
    rw [hs] at r1
    rw [hx] at r2
    have e1 := (hD.get hi).und
    rw [hd] at e1
    have en := (hD.get hn).und
    rw [hdn] at en
    have hsz' : 0 < j.size := by simpa [Nat.blt_eq] using hsz
    have hby' : j.bytes ≤ 1024 := Nat.le_of_ble_eq_true hby
    obtain ⟨ji, q1, q2, q3, q4⟩ := (hD.get hj).info
    obtain ⟨a, c0, vs, g1, g2, g3, g4, g5⟩ := h1.src hi' hsz' r1.of_one e1
    rw [r1.flat] at g1
    injection g1 with ea _ ec
    subst ea; subst ec
    have hbytes : (n + m) * j.bytes ≤ 140737488355328 := Nat.le_trans (Nat.mul_le_mul hbig hby') (by decide)
    have hmb : m * j.bytes ≤ (n + m) * j.bytes := Nat.mul_le_mul_right _ (by omega)
    have hrun := Lib.run_append_grow_zeros (P := G.P) w t tn o.type e ji j.zero k kn e1 en q1 q4 (some ⟨b, off, none⟩) n c vs (by rw [q2]; rw [r1.flat] at g5; exact g5.cellsD) m h0 (by rw [q2]; exact hsz') hg (by omega) (by rw [q3]; omega) (by rw [q3]; exact growslice_fits hg hbytes)
    have hge := grownCap_ge w (n + m) c e
    have hinv := hi'.drew.newBox (vs.toArray ++ Builtin.zeroCells j.zero.cells m ++ Builtin.zeroCells j.zero.cells (grownCap w (n + m) c e - (n + m))) e (l ++ zrow j m ++ zrow j (grownCap w (n + m) c e - (n + m))) (by
        rw [Array.size_append, Array.size_append, List.size_toArray, List.length_append, List.length_append, g2, g3, zrow_length, zrow_length, size_zeroCells, size_zeroCells]) (fun q y u hy hu => by
        have hlv : (vs ++ (Builtin.zeroCells j.zero.cells m).toList).length = (l ++ zrow j m).length := by rw [List.length_append, List.length_append, g2, g3, zrow_length, Array.length_toList, size_zeroCells]
        refine Rep.mono (.drew K w) (append_get_rep (vs := vs ++ (Builtin.zeroCells j.zero.cells m).toList) (vs2 := (Builtin.zeroCells j.zero.cells (grownCap w (n + m) c e - (n + m))).toList) hlv (append_get_rep (by rw [g2, g3]) g4 (fun q y u hy hu => zrow_rep G w K hz _ q y u hy (by simpa using hu))) (fun q y u hy hu => zrow_rep G w K hz _ q y u hy (by simpa using hu)) q y u hy ?_)
        rw [← Array.getElem?_toList, Array.toList_append, Array.toList_append] at hu
        exact hu)
    have hext : Ext K w K (w.drew.alloc (.cells (vs.toArray ++ Builtin.zeroCells j.zero.cells m ++ Builtin.zeroCells j.zero.cells (grownCap w (n + m) c e - (n + m))) e)) := (Ext.drew K w).trans (Ext.alloc hi'.drew _)
    refine ⟨_, _, _, _, _, ?_, .raw rfl, hinv, hext, w.heap.size, grownCap w (n + m) c e, hi'.fresh, hge, rfl, rfl⟩
    simp [execOp, ho, resolve, invoke, builtin, r1.flat, r2.flat, hrun]

/-- copy: all is read before anything is written. -/
theorem LDo.copyR {s x : Operand} {b off n c m : Nat} {cs l : List LV} {xx : LV} {t' : TypeId} (ho : o.op = .call { callee := .builtin .copy, args := #[s, x], argTypes := #[t, t'] })
    (hs : lev T s = .one (rsl b off n c)) (hx : lev T x = .one xx) (hi : D.get t = some i) (hd : i.desc = .slice e) (hj : D.get e = some j) (hsz : Nat.blt 0 j.size = true)
    (hb : S.box b = some cs) (hl : off + n * j.size ≤ cs.length) (hsrc : SrcL S j.size xx m l) :
    LDo G o T S (fun r S' => r = .one (.v (.int .i64 (Nat.min m n : Nat))) ∧ S' = S.setBox b (splice cs off (l.take (Nat.min m n * j.size)))) :=
  .of_run fun K w ac hi' hr => by
    have h1 := hr s (by rw [ho]; simp [Op.operands, Call.operands])
    have h2 := hr x (by rw [ho]; simp [Op.operands, Call.operands])
    rw [hs] at h1
    rw [hx] at h2
    have e1 := (hD.get hi).und
    rw [hd] at e1
    have hsz' : 0 < j.size := by simpa [Nat.blt_eq] using hsz
    obtain ⟨a, c', vs, g1, g2, g3, g4, g5, g6⟩ := hsrc.run hi' hsz' h2.of_one
    obtain ⟨cur, T0, c1, c2, _⟩ := hi'.cells hb
    have hmn : Nat.min m n * j.size ≤ m * j.size := Nat.mul_le_mul_right _ (Nat.min_le_left m n)
    have hmn2 : Nat.min m n * j.size ≤ n * j.size := Nat.mul_le_mul_right _ (Nat.min_le_right m n)
    have hvl : (vs.take (Nat.min m n * j.size)).length = Nat.min m n * j.size := by rw [List.length_take]; omega
    have hll : (l.take (Nat.min m n * j.size)).length = Nat.min m n * j.size := by rw [List.length_take]; omega
    have hrep : ∀ (q : Nat) y u, (l.take (Nat.min m n * j.size))[q]? = some y → (vs.take (Nat.min m n * j.size))[q]? = some u → Rep G w K y u := fun q y u hy hu => by
      have hq := (List.getElem?_eq_some_iff.1 hy).1
      rw [hll] at hq
      rw [List.getElem?_take, if_pos hq] at hy hu
      exact g4 q y u hy hu
    have hfit : off + (vs.take (Nat.min m n * j.size)).length ≤ cur.size := by rw [hvl, c2]; omega
    have hst := run_storeCells_at G.P b off T0 (vs.take (Nat.min m n * j.size)) 0 cur w c1 (by simpa using hfit) (SrcL.one (by rw [hvl, hll]) hrep)
    simp only [Nat.add_zero] at hst
    have hfc : (Builtin.firstCells j.size (Nat.min m n) (.slice a m c')).run G.P w = .ok (vs.take (Nat.min m n * j.size)).toArray w := by
      cases a with
      | some a =>
        refine run_firstCells_some w j.size (Nat.min m n) a m c' _ hvl fun q u hu => ?_
        have hq := (List.getElem?_eq_some_iff.1 hu).1
        rw [hvl] at hq
        rw [List.getElem?_take, if_pos hq] at hu
        exact g6 a rfl q u hu
      | none =>
        obtain rfl : m = 0 := by
          rcases Nat.eq_zero_or_pos m with h | h
          · exact h
          · simp at g5; omega
        have hm0 : Nat.min 0 n = 0 := Nat.zero_min n
        rw [hm0, Nat.zero_mul, List.take_zero]
        exact run_firstCells_none w j.size 0 0 c'
    have hrun : (Builtin.copy_ #[t, t'] o.type #[ac.eval s, ac.eval x]).run G.P w = .ok (.int .i64 (Nat.min m n : Nat)) (w.setRow b (cur.toList.take off ++ (vs.take (Nat.min m n * j.size)) ++ cur.toList.drop (off + (vs.take (Nat.min m n * j.size)).length)).toArray) := by
      have hlen : (Builtin.lenOf (.slice a m c')).run G.P w = .ok m w := rfl
      rw [h1.flat, g1]
      simp only [Builtin.copy_, List.getElem?_toArray, List.getElem?_cons_zero, List.getElem?_cons_succ, Sem.run_bind, run_underlying e1, Result.andThen_ok, hlen, run_sizeOf' (hD.get hj), hfc, hst, Sem.run_pure, goInt]
    obtain ⟨k1, k2⟩ := hi'.setBox hb (off := off) (l := l.take (Nat.min m n * j.size)) (by rw [hll, ← c2, ← hvl]; exact hfit) (vs := vs.take (Nat.min m n * j.size)) (by rw [hvl, hll]) hrep cur T0 c1
    refine ⟨_, _, _, _, _, ?_, .raw rfl, k1, k2, rfl, rfl⟩
    simp [execOp, ho, resolve, invoke, builtin, hrun]

/-- clear. -/
theorem LDo.clearR {x : Operand} {b off n c : Nat} {cs : List LV} (ho : o.op = .call { callee := .builtin .clear, args := #[x], argTypes := #[t] })
    (hx : lev T x = .one (rsl b off n c)) (hi : D.get t = some i) (hd : i.desc = .slice e) (hj : D.get e = some j) (hz : j.zero.cells.toList.all Value.oneCell' = true) (hzs : j.zero.cells.size = j.size)
    (hb : S.box b = some cs) (hl : off + n * j.size ≤ cs.length) :
    LDo G o T S (fun r S' => r = .tup [] ∧ S' = S.setBox b (splice cs off (zrow j n))) :=
  .of_run fun K w ac hi' hr => by
    have h1 := hr x (by rw [ho]; simp [Op.operands, Call.operands])
    rw [hx] at h1
    have e1 := (hD.get hi).und
    rw [hd] at e1
    obtain ⟨cur, T0, c1, c2, _⟩ := hi'.cells hb
    have hzl : (Builtin.zeroCells j.zero.cells n).toList.length = n * j.size := by rw [Array.length_toList, size_zeroCells, hzs]
    have hll : (zrow j n).length = n * j.size := by rw [zrow_length, hzs]
    have hrep : ∀ (q : Nat) y u, (zrow j n)[q]? = some y → (Builtin.zeroCells j.zero.cells n).toList[q]? = some u → Rep G w K y u := fun q y u hy hu => zrow_rep G w K hz n q y u hy (by simpa using hu)
    have hfit : off + (Builtin.zeroCells j.zero.cells n).toList.length ≤ cur.size := by rw [hzl, c2]; exact hl
    have hst := run_storeCells_at G.P b off T0 (Builtin.zeroCells j.zero.cells n).toList 0 cur w c1 (by simpa using hfit) (SrcL.one (by rw [hzl, hll]) hrep)
    simp only [Nat.add_zero] at hst
    obtain ⟨k1, k2⟩ := hi'.setBox hb (off := off) (l := zrow j n) (by rw [hll]; exact hl) (vs := (Builtin.zeroCells j.zero.cells n).toList) (by rw [hzl, hll]) hrep cur T0 c1
    have hrun : (Builtin.clear_ #[t] o.type #[ac.eval x]).run G.P w = .ok (.tuple #[]) (w.setRow b (cur.toList.take off ++ (Builtin.zeroCells j.zero.cells n).toList ++ cur.toList.drop (off + (Builtin.zeroCells j.zero.cells n).toList.length)).toArray) := by
      rw [h1.flat]
      cases n with
      | zero =>
        have e0 : (Builtin.zeroCells j.zero.cells 0).toList = [] := List.length_eq_zero_iff.1 (by rw [hzl]; simp)
        rw [e0, List.append_nil, List.length_nil, Nat.add_zero, List.take_append_drop, Array.toArray_toList, setRow_self w b cur T0 (0, 0) c1]
        simp [Builtin.clear_, run_underlying e1]
      | succ n =>
        simp [Builtin.clear_, run_underlying e1, run_zero' (hD.get hj), hst]
    refine ⟨.tup [], _, _, _, _, ?_, .tup [] #[] rfl (by simp), k1, k2, rfl, rfl⟩
    simp [execOp, ho, resolve, invoke, builtin, hrun]

/-- A slice literal whose cells may be written. -/
theorem LDo.buildSliceR {n : Nat} {ps : List (Nat × Operand)} {lp : List (Nat × List LV)} {l : List LV} (ho : o.op = .buildSlice t n ps.toArray)
    (hp : lparts T ps = some lp) (hi : D.get t = some i) (hd : i.desc = .slice e) (hj : D.get e = some j) (hsz : Nat.blt 0 j.size = true) (hzs : j.zero.cells.size = j.size) (hz : j.zero.cells.toList.all Value.oneCell' = true) (hbig : Nat.ble (n * j.size) 16777216 = true)
    (h : lfill (fun k => some (k * j.size, j.size)) (sliceZero j n) lp = some l) (hl : l.length = n * j.size) : LDo G o T S (fun r S' => ∃ b, S.fresh b ∧ r = .one (rsl b 0 n n) ∧ S' = S.newBox b l) :=
  .of_run fun K w ac hi' hr => by
    have hsz' : 0 < j.size := by simpa [Nat.blt_eq] using hsz
    obtain ⟨c, h1, h2, h3⟩ := run_buildSlice hD ho hp hi hd hj hsz hzs hz hbig h hr
    have hinv := hi'.newBox c e l (by rw [h2, hl]) (fun q y u hy hu => by
      have hq := (List.getElem?_eq_some_iff.1 hy).1
      rw [hl] at hq
      have hi2 : q / j.size < n := (Nat.div_lt_iff_lt_mul hsz').2 hq
      have hcell : cellOf (chunks j.size l n) (q / j.size) (q % j.size) = some y := by
        unfold cellOf
        rw [chunks_get _ _ _ _ hi2]
        simp only [Option.bind_some]
        rw [List.getElem?_take, if_pos (Nat.mod_lt _ hsz'), List.getElem?_drop, Nat.mul_comm, Nat.div_add_mod]
        exact hy
      obtain ⟨v, e1, e2⟩ := h3.rep _ _ y hcell
      rw [Nat.mul_comm, Nat.div_add_mod, Array.getElem?_toList, hu] at e1
      obtain rfl : u = v := by simpa using e1
      exact e2)
    exact ⟨_, _, _, _, _, h1, .raw rfl, hinv, .alloc hi' _, w.heap.size, hi'.fresh, rfl, rfl⟩

/-- Two boxes lie apart. -/
theorem LVal.overlapsR {x y : Operand} {f : FuncId} {fn : Func} {ts : Array TypeId} {b off n c b' off' n' c' : Nat} {cs cs' : List LV} {tR : TypeId} (ho : o.op = .call { callee := .value (.func f), args := #[x, y], argTypes := ts })
    (hf : G.P.funcs[f]? = some fn) (hname : (fn.name == "runtime.NumGoroutine") = false) (hbn : fn.body.isNone = true) (hnx : Extern.findNext fn = none) (hfe : Extern.find fn = some (Extern.SlicesOverlaps.overlaps #[t, t] #[tR]))
    (hx : lev T x = .one (rsl b off n c)) (hy : lev T y = .one (rsl b' off' n' c')) (hi : D.get t = some i) (hd : i.desc = .slice e) (hj : D.get e = some j) (hb : S.box b = some cs) (hb' : S.box b' = some cs') (hne : b ≠ b') (hl : cs'.length ≠ 0) :
    LVal G o T S (.one (.v (.bool false))) :=
  .of_run fun K w ac hi' hr => by
    have h1 := hr x (by rw [ho]; simp [Op.operands, Call.operands])
    have h2 := hr y (by rw [ho]; simp [Op.operands, Call.operands])
    rw [hx] at h1
    rw [hy] at h2
    have e1 := (hD.get hi).und
    rw [hd] at e1
    obtain ⟨cur, T0, c1, c2, _⟩ := hi'.cells hb
    obtain ⟨cur', T0', c1', c2', _⟩ := hi'.cells hb'
    have hov := Lib.run_overlaps_apart (P := G.P) w t tR e e1 j.size (fun w => run_sizeOf' (hD.get hj)) ⟨b, off, none⟩ ⟨b', off', none⟩ n c n' c' hne T0 T0' cur.size cur'.size (by simp [World.shape?, c1]) (by simp [World.shape?, c1']) (by omega) (by simp [World.frozen?, c1]) (by simp [World.frozen?, c1])
    have hcall := run_callFunc_extern (f := f) hf hname hbn hnx hfe #[.slice (some ⟨b, off, none⟩) n c, .slice (some ⟨b', off', none⟩) n' c'] w
    rw [hov] at hcall
    refine ⟨_, ?_, .raw rfl⟩
    simp only [Result.andThen_ok] at hcall
    have key : (execOp ac.eval o).run G.P w = (callFunc f #[ac.eval x, ac.eval y]).run G.P w := by simp [execOp, ho, resolve, Act.eval, Deferred.ofValue, invoke]
    rw [key, h1.flat, h2.flat, hcall]
end
end Go.Proofs.Ytgkjhlmfgaaddaa.LF
end

section
/- A box becomes a row that stays; calls of functions that look at slices that lead into boxes. -/
namespace Go.Proofs.Ytgkjhlmfgaaddaa.LF
open Go.RowKit

def LS.delBox (S : LS) (b : Nat) : LS := { S with box := fun x => bif Nat.beq x b then Option.none else S.box x }
theorem box_del (S : LS) (b : Nat) : (S.delBox b).box b = Option.none := by simp [LS.delBox]
theorem box_del_ne (S : LS) {b b' : Nat} (h : b' ≠ b) : (S.delBox b).box b' = S.box b' := by
  simp only [LS.delBox]
  rcases beq_cases b' b (Option.none : Option (List LV)) (S.box b') with ⟨e, _⟩ | ⟨_, e⟩
  · exact absurd e h
  · exact e

theorem Inv.freeze {G : Ctx} {S : LS} {K : Kept} {w : World} (h : Inv G S K w) {b : Nat} {cs : List LV} (hb : S.box b = some cs) :
    Inv G (S.delBox b) (withRow K b cs.length) w ∧ Ext K w (withRow K b cs.length) w := by
  obtain ⟨c, T, c1, c2, c3⟩ := h.cells hb
  have hx : Ext K w (withRow K b cs.length) w := ⟨fun k j hk => ⟨.inl hk, rfl⟩, fun _ _ h => h, Nat.le_refl _, fun _ h => h⟩
  refine ⟨⟨h.below, h.base, fun k j hk => ?_, fun k cs' hk => ?_, fun k T' n hk => ?_, fun k o hk => h.obj k o hk, h.top, G.stable _ _ _ _ h.since hx⟩, hx⟩
  · rcases hk with hk | ⟨rfl, hj⟩
    · exact h.live k j hk
    · exact ⟨c[j]'(by omega), by rw [cell_of_row w k j c T (0, 0) c1, Array.getElem?_eq_getElem (by omega)]⟩
  · simp only [LS.delBox] at hk
    rcases beq_cases k b (Option.none : Option (List LV)) (S.box k) with ⟨_, e⟩ | ⟨hne, e⟩
    · rw [e] at hk; cases hk
    · rw [e] at hk
      obtain ⟨h1, h2, c', T', h3, h4, h5, h6⟩ := h.box k cs' hk
      refine ⟨h1, h2, c', T', h3, h4, fun j x v hj hv => (h5 j x v hj hv).mono hx, fun j hk => ?_⟩
      rcases hk with hk | ⟨e', _⟩
      · exact h6 j hk
      · exact hne e'
  · have hk' : S.row k = some (T', n) := hk
    obtain ⟨h1, h2, h3, c', h4, h5⟩ := h.row k T' n hk'
    have hne : k ≠ b := fun e => by subst e; rw [hb] at h3; cases h3
    refine ⟨h1, h2, by rw [box_del_ne _ hne]; exact h3, c', h4, fun j hj hk => ?_⟩
    rcases hk with hk | ⟨e', _⟩
    · exact h5 j hj hk
    · exact hne e'

/-- A part of a box, as a row. -/
structure Part (cs : List LV) (off c z : Nat) (es : List (List LV)) : Prop where
  each : ∀ e ∈ es, e.length = z
  eq : (cs.drop off).take (es.length * z) = es.flatten
  fit : off + es.length * z ≤ cs.length
  cap : es.length ≤ c

theorem Part.rep {G G' : Ctx} {S : LS} {K K' : Kept} {w : World} (hi : Inv G S K w) {b off c z : Nat} {cs : List LV} {es : List (List LV)} (hb : S.box b = some cs) (h : Part cs off c z es) (hx : Ext K w K' w) (hk : ∀ j, j < cs.length → K' b j) (hP : G.P = G'.P) :
    Rep G' w K' (.sl .sh es) (.slice (some ⟨b, off, Option.none⟩) es.length c) := by
  obtain ⟨cur, T, c1, c2, c3⟩ := hi.cells hb
  have hvl : ((cur.toList.drop off).take (es.length * z)).length = es.length * z := by
    rw [List.length_take, List.length_drop, Array.length_toList (xs := cur)]; have := h.fit; omega
  refine Rep.ofFlat (z := z) (vs := (cur.toList.drop off).take (es.length * z)) ⟨hvl, h.each, fun i j x hij => ?_⟩ (by simp) h.cap (fun q u hu => ?_) (by simp)
  · obtain ⟨l1, l2⟩ := cellOf_lt h.each hij
    have hlt := lt_mul l1 l2
    rw [← flatten_get h.each i j l2, ← h.eq, List.getElem?_take, if_pos hlt, List.getElem?_drop] at hij
    obtain ⟨v, d1, d2, d3⟩ := c3 _ x hij
    exact ⟨v, by rw [List.getElem?_take, if_pos hlt, List.getElem?_drop, Array.getElem?_toList]; exact d1, (d3.mono hx).ctx hP⟩
  · have hq := (List.getElem?_eq_some_iff.1 hu).1
    rw [hvl] at hq
    rw [List.getElem?_take, if_pos hq, List.getElem?_drop, Array.getElem?_toList] at hu
    exact ⟨by rw [cell_of_row w b (off + q) cur T (0, 0) c1]; exact hu, hk _ (by have := h.fit; omega)⟩

theorem LWp.conv {G : Ctx} {M : Option Nat} {n : Nat} {c : Code} {Q : Exit → (Nat → TV) → LS → Prop} {T T' : Nat → TV} {S S' : LS}
    (h : ∀ K w (a : Act), Inv G S K w → RelT G w K n T a → ∃ K', Inv G S' K' w ∧ RelT G w K' n T' a ∧ Ext K w K' w) (k : LWp G M n c Q T' S') : LWp G M n c Q T S := by
  intro m K w a h1 h2 h3
  obtain ⟨K', i1, i2, i3⟩ := h K w a h1 h2
  exact wpIn_mono (k m K' w a i1 i2 (h3.mono i3)) fun e a' w' hp => hp.trans i3
theorem LOps.conv {G : Ctx} {M : Option Nat} {n : Nat} {ops : Array Oper} {l : List Oper} {Q : (Nat → TV) → LS → Prop} {T T' : Nat → TV} {S S' : LS}
    (h : ∀ K w (a : Act), Inv G S K w → RelT G w K n T a → ∃ K', Inv G S' K' w ∧ RelT G w K' n T' a ∧ Ext K w K' w) (k : LOps G M n ops l Q T' S') : LOps G M n ops l Q T S := by
  intro m K w a h1 h2 h3
  obtain ⟨K', i1, i2, i3⟩ := h K w a h1 h2
  exact wpListIn_mono (fun e a' w' hp => ⟨hp.1, hp.2.trans i3⟩) _ _ _ (k m K' w a i1 i2 (h3.mono i3))

theorem frozen_slot {G : Ctx} {n : Nat} {T : Nat → TV} {S : LS} {d b off c z : Nat} {cs : List LV} {es : List (List LV)} (hd : T d = .one (rsl b off es.length c)) (hb : S.box b = some cs) (h : Part cs off c z es) :
    ∀ K w (a : Act), Inv G S K w → RelT G w K n T a → ∃ K', Inv G (S.delBox b) K' w ∧ RelT G w K' n (upd T d (.one (.sl .sh es))) a ∧ Ext K w K' w := fun K w a hi hr => by
  obtain ⟨j1, j2⟩ := hi.freeze hb
  refine ⟨_, j1, ⟨hr.1, fun q => ?_⟩, j2⟩
  by_cases hq : q = d
  · subst hq
    rw [upd_same]
    have hv := hr.2 q
    rw [hd] at hv
    rw [hv.flat]
    exact .one (h.rep hi hb j2 (fun j hj => .inr ⟨rfl, hj⟩) rfl)
  · rw [upd_ne T _ hq]; exact (hr.2 q).mono j2
/-- A slot's box becomes a row that stays. -/
theorem LWp.freeze (d : Nat) {G : Ctx} {M : Option Nat} {n : Nat} {code : Code} {Q : Exit → (Nat → TV) → LS → Prop} {T : Nat → TV} {S : LS} {b off c z : Nat} {cs : List LV} {es : List (List LV)} (hd : T d = .one (rsl b off es.length c)) (hb : S.box b = some cs) (h : Part cs off c z es)
    (k : LWp G M n code Q (upd T d (.one (.sl .sh es))) (S.delBox b)) : LWp G M n code Q T S := .conv (frozen_slot hd hb h) k
theorem LOps.freeze (d : Nat) {G : Ctx} {M : Option Nat} {n : Nat} {ops : Array Oper} {l : List Oper} {Q : (Nat → TV) → LS → Prop} {T : Nat → TV} {S : LS} {b off c z : Nat} {cs : List LV} {es : List (List LV)} (hd : T d = .one (rsl b off es.length c)) (hb : S.box b = some cs) (h : Part cs off c z es)
    (k : LOps G M n ops l Q (upd T d (.one (.sl .sh es))) (S.delBox b)) : LOps G M n ops l Q T S := .conv (frozen_slot hd hb h) k

/-- How a value is looked at. -/
inductive View (S : LS) : LV → LV → Prop
  | same (x : LV) : View S x x
  | sh (o : Own) (es : List (List LV)) : View S (.sl o es) (.sl .sh es)
  | row (b off c z : Nat) (cs : List LV) (es : List (List LV)) (n : Nat) (hn : n = es.length) (hb : S.box b = some cs) (h : Part cs off c z es) : View S (rsl b off n c) (.sl .sh es)
def views (S : LS) : List LV → List LV → Prop
  | [], [] => True
  | y :: l, x :: l' => View S y x ∧ views S l l'
  | _, _ => False
inductive ViewT (S : LS) : TV → TV → Prop
  | one {y x : LV} (h : View S y x) : ViewT S (.one y) (.one x)
  | agg {l l' : List LV} (h : views S l l') : ViewT S (.agg l) (.agg l')
def viewsT (S : LS) : List TV → List TV → Prop
  | [], [] => True
  | y :: l, x :: l' => ViewT S y x ∧ viewsT S l l'
  | _, _ => False

theorem Inv.all {G : Ctx} {S : LS} {K : Kept} {w : World} (h : Inv G S K w) : Ext K w (allCells w) w := ⟨fun b j hk => ⟨h.live b j hk, rfl⟩, fun _ _ h => h, Nat.le_refl _, fun _ h => h⟩

theorem View.rep {G G' : Ctx} {S : LS} {K : Kept} {w : World} (hi : Inv G S K w) (hP : G.P = G'.P) {y x : LV} (h : View S y x) {v : Value} (hr : Rep G w K y v) : Rep G' w (allCells w) x v := by
  cases h with
  | same x => exact (hr.mono hi.all).ctx hP
  | sh o es => exact (hr.share.mono hi.all).ctx hP
  | row b off c z cs es n hn hb h =>
    subst hn
    have hv := (RepT.one hr).flat
    subst hv
    obtain ⟨cur, T, c1, c2, c3⟩ := hi.cells hb
    exact h.rep hi hb hi.all (fun j hj => ⟨cur[j]'(by omega), by rw [cell_of_row w b j cur T (0, 0) c1, Array.getElem?_eq_getElem (by omega)]⟩) hP
theorem views.get {S : LS} : ∀ {l l' : List LV}, views S l l' → l.length = l'.length ∧ ∀ (j : Nat) x, l'[j]? = some x → ∃ y, l[j]? = some y ∧ View S y x
  | [], [], _ => ⟨rfl, by simp⟩
  | y :: l, x :: l', ⟨h, k⟩ => by
    obtain ⟨h1, h2⟩ := views.get k
    refine ⟨by simp [h1], fun j z hj => ?_⟩
    cases j with
    | zero => obtain rfl : x = z := by simpa using hj
              exact ⟨y, rfl, h⟩
    | succ j => exact h2 j z (by simpa using hj)
theorem ViewT.rep {G G' : Ctx} {S : LS} {K : Kept} {w : World} (hi : Inv G S K w) (hP : G.P = G'.P) {y x : TV} (h : ViewT S y x) {v : Value} (hr : RepT G w K y v) : RepT G' w (allCells w) x v := by
  cases h with
  | one h => exact .one (h.rep hi hP hr.of_one)
  | agg h =>
    obtain ⟨vs, rfl, h1, h2⟩ := hr.agg_inv
    obtain ⟨h3, h4⟩ := h.get
    refine .agg _ vs (by rw [h1, h3]) fun j x v hj hv => ?_
    obtain ⟨y, h5, h6⟩ := h4 j x hj
    exact h6.rep hi hP (h2 j y v h5 hv)
theorem viewsT.get {S : LS} : ∀ {l l' : List TV}, viewsT S l l' → l.length = l'.length ∧ ∀ (j : Nat) x, l'[j]? = some x → ∃ y, l[j]? = some y ∧ ViewT S y x
  | [], [], _ => ⟨rfl, by simp⟩
  | y :: l, x :: l', ⟨h, k⟩ => by
    obtain ⟨h1, h2⟩ := viewsT.get k
    refine ⟨by simp [h1], fun j z hj => ?_⟩
    cases j with
    | zero => obtain rfl : x = z := by simpa using hj
              exact ⟨y, rfl, h⟩
    | succ j => exact h2 j z (by simpa using hj)

/-- Plain values: no slices. -/
def flatLV : LV → Bool
  | .v _ => true
  | _ => false
def flat1 : TV → Bool
  | .one x => flatLV x
  | .agg l => l.all flatLV
  | _ => false
def flatTV : TV → Bool
  | .tup l => l.all flat1
  | r => flat1 r
theorem Rep.flatAny {G G' : Ctx} {w w' : World} {K K' : Kept} {x : LV} {v : Value} (h : Rep G w K x v) (hf : flatLV x = true) : Rep G' w' K' x v := by
  cases h with
  | raw _ h1 => exact .raw _ h1
  | _ => cases hf
theorem RepT.flatO {G G' : Ctx} {w w' : World} {K K' : Kept} {r : TV} {v : Value} (h : RepT G w K r v) (hf : LF.flat1 r = true) : RepT G' w' K' r v := by
  cases h with
  | one h => exact .one (h.flatAny hf)
  | agg l vs hs h => exact .agg l vs hs fun j x v hj hv => (h j x v hj hv).flatAny (List.all_eq_true.1 hf x (List.mem_of_getElem? hj))
  | _ => cases hf
theorem RepT.flatAny {G G' : Ctx} {w w' : World} {K K' : Kept} {r : TV} {v : Value} (h : RepT G w K r v) (hf : flatTV r = true) : RepT G' w' K' r v := by
  cases r with
  | tup l =>
    obtain ⟨vs, rfl, h1, h2⟩ := h.tup_inv
    exact .tup l vs h1 fun j x v hj hv => RepT.flatO (h2 j x v hj hv) (List.all_eq_true.1 hf x (List.mem_of_getElem? hj))
  | one x => exact RepT.flatO h hf
  | agg l => exact RepT.flatO h hf
  | _ => cases hf

/-- What lies below stays: the logical memory stays. -/
theorem Inv.of_below {G : Ctx} {S : LS} {K : Kept} {w w' : World} (h : Inv G S K w) (hb : Below w.heap.size w w') : Inv G S K w' ∧ Ext K w K w' := by
  have hlt : ∀ {b : Nat} {o : Obj}, w.heap[b]? = some o → w'.heap[b]? = some o := fun {b o} ho => by
    rw [hb.block b (Array.getElem?_eq_some_iff.1 ho).1]; exact ho
  have hx : Ext K w K w' := by
    refine ⟨fun b j hk => ⟨hk, ?_⟩, fun b s hs => ?_, hb.size, fun b ho => hlt ho⟩
    · obtain ⟨v, hv⟩ := h.live b j hk
      exact World.cell?_of_block (a := ⟨b, j, Option.none⟩) (hb.block b (by have := World.block_lt_of_cell? w _ hv; simpa using this))
    · have : b < w.heap.size := by
        rcases Nat.lt_or_ge b w.heap.size with h' | h'
        · exact h'
        · simp [World.shape?, Array.getElem?_eq_none h'] at hs
      unfold World.shape? at *
      rw [hb.block b this]; exact hs
  refine ⟨⟨?_, Nat.le_trans h.base hb.size, fun b j hk => ?_, fun b cs hk => ?_, fun b T n hk => ?_, fun b o hk => ?_, Nat.le_trans h.top hb.size, G.stable _ _ _ _ h.since hx⟩, hx⟩
  · have := h.below
    exact ⟨hb.os.trans this.os, hb.tape.trans this.tape, hb.output.trans this.output, Nat.le_trans this.size hb.size, fun k hk => by rw [hb.block k (Nat.lt_of_lt_of_le hk h.base)]; exact this.block k hk⟩
  · obtain ⟨v, hv⟩ := h.live b j hk
    exact ⟨v, by rw [(hx.kept b j hk).2]; exact hv⟩
  · obtain ⟨h1, h2, c, T, h3, h4, h5, h6⟩ := h.box b cs hk
    exact ⟨h1, h2, c, T, hlt h3, h4, fun j x v hj hv => (h5 j x v hj hv).mono hx, h6⟩
  · obtain ⟨h1, h2, h3, c, h4, h5⟩ := h.row b T n hk
    exact ⟨h1, h2, h3, c, hlt h4, h5⟩
  · obtain ⟨h1, h2, h3, h4⟩ := h.obj b o hk
    exact ⟨h1, h2, hlt h3, h4⟩

/-- Arguments, all looked at as what stays. -/
theorem argsAny {G : Ctx} {S : LS} {K : Kept} {w : World} (hi : Inv G S K w) {G' : Ctx} (hP : G.P = G'.P) {T : Nat → TV} {a : Act} {xs : List Operand} {args : List TV} (hv : viewsT S (xs.map (lev T)) args) (hr : ∀ x ∈ xs, RepT G w K (lev T x) (a.eval x)) :
    ArgsRel G' w (allCells w) args (xs.map a.eval).toArray := by
  obtain ⟨h1, h2⟩ := hv.get
  refine ⟨by simpa using h1, fun i x v hx hv' => ?_⟩
  obtain ⟨y, h3, h4⟩ := h2 i x hx
  rw [List.getElem?_map] at h3
  rw [List.getElem?_toArray, List.getElem?_map] at hv'
  cases hq : xs[i]? with
  | none => rw [hq] at h3; simp at h3
  | some z =>
    rw [hq] at h3 hv'
    simp only [Option.map_some, Option.some.injEq] at h3 hv'
    subst h3; subst hv'
    exact h4.rep hi hP (hr z (List.mem_of_getElem? hq))

/-- A call of a function that only looks: whatever leads into boxes is looked at as rows that stay. -/
theorem LVal.callAny {G : Ctx} {o : Oper} {T : Nat → TV} {S : LS} {f : FuncId} {fn : Func} {xs : List Operand} {ts : Array TypeId} {args : List TV} {r : TV}
    (h : ∀ G' : Ctx, G'.P = G.P → LFun G' f args r) (hfl : flatTV r = true) (ho : o.op = .call { callee := .value (.func f), args := xs.toArray, argTypes := ts }) (hf : G.P.funcs[f]? = some fn) (hb : fn.body.isSome = true) (hn : fn.name ≠ "runtime.NumGoroutine")
    (hv : viewsT S (xs.map (lev T)) args) : LVal G o T S r := by
  intro K w a hi hr
  have hrun : (execOp a.eval o).run G.P w = .ok (.enter f (xs.map a.eval).toArray) w := by
    have hbn : fn.body ≠ none := fun e => by rw [e] at hb; cases hb
    simp [execOp, ho, resolve, Act.eval, Deferred.ofValue, invoke, callFunc, hf, hn, hbn]
  unfold Oper.wp
  rw [hrun]
  have hargs := argsAny hi (G' := { P := G.P, base := w.heap.size, W0 := w }) rfl hv (fun x hx => hr x (by rw [ho]; simp [Op.operands, Call.operands]; exact .inr hx))
  refine (h { P := G.P, base := w.heap.size, W0 := w } rfl (LS.none w.heap.size) (allCells w) w _ (Inv.none G.P w) hargs).mono fun e w' hp => ?_
  obtain ⟨r', v, S', K', rfl, h2, h3, h4, rfl, rfl⟩ := hp
  obtain ⟨j1, j2⟩ := hi.of_below h3.below
  exact ⟨v, K, rfl, h2.flatAny hfl, j1, j2⟩

/-- The logical memory with what a call made. -/
def LS.join (S S1 : LS) : LS where
  box := fun b => (S1.box b).or (S.box b)
  row := fun b => (S1.row b).or (S.row b)
  obj := fun b => (S1.obj b).or (S.obj b)
  top := max S.top S1.top
theorem join_box {S S1 : LS} {b : Nat} {cs : List LV} (h : S1.box b = some cs) : (S.join S1).box b = some cs := by simp [LS.join, h]
structure LS.above (n : Nat) (S : LS) : Prop where
  box : ∀ b x, S.box b = some x → n ≤ b
  row : ∀ b x, S.row b = some x → n ≤ b
  obj : ∀ b x, S.obj b = some x → n ≤ b
theorem Inv.above {G : Ctx} {S : LS} {K : Kept} {w : World} (h : Inv G S K w) : S.above G.base := ⟨fun b x hb => (h.box b x hb).1, fun b x hb => (h.row b x.1 x.2 hb).1, fun b x hb => (h.obj b x hb).1⟩
theorem LS.le.join {S S1 : LS} (hw : S.wf) (h : S1.above S.top) : S.le (S.join S1) := by
  refine ⟨fun b x hb => ?_, fun b x hb => ?_, fun b x hb => ?_, Nat.le_max_left _ _⟩
  · have : S1.box b = Option.none := by
      cases hq : S1.box b with
      | none => rfl
      | some y => rw [hw.box b (h.box b y hq)] at hb; cases hb
    simp [LS.join, this, hb]
  · have : S1.row b = Option.none := by
      cases hq : S1.row b with
      | none => rfl
      | some y => rw [hw.row b (h.row b y hq)] at hb; cases hb
    simp [LS.join, this, hb]
  · have : S1.obj b = Option.none := by
      cases hq : S1.obj b with
      | none => rfl
      | some y => rw [hw.obj b (h.obj b y hq)] at hb; cases hb
    simp [LS.join, this, hb]

/-- Cells but for what lies in blocks that may be written, or are not cells of old. -/
def keptJoin (K K' : Kept) (n : Nat) : Kept := fun b j => K b j ∨ (n ≤ b ∧ K' b j)

theorem Inv.join {G G1 : Ctx} {S S1 : LS} {K K1 : Kept} {w w' : World} (h : Inv G S K w) (hP : G1.P = G.P) (hB : G1.base = w.heap.size) (hW : G1.W0 = w) (h1 : Inv G1 S1 K1 w')
    (hrep : ∀ b cs, S1.box b = some cs → cs.all flatLV = true) : Inv G (S.join S1) (keptJoin K K1 w.heap.size) w' ∧ Ext K w (keptJoin K K1 w.heap.size) w' := by
  have hbel : Below w.heap.size w w' := by have := h1.below; rw [hB, hW] at this; exact this
  obtain ⟨j1, j2⟩ := h.of_below hbel
  have hlt : ∀ {b : Nat} {o : Obj}, w.heap[b]? = some o → b < w.heap.size := fun {b o} ho => (Array.getElem?_eq_some_iff.1 ho).1
  have hk1 : ∀ {b j : Nat}, b < w.heap.size → keptJoin K K1 w.heap.size b j → K b j := fun {b j} hb hk => by
    rcases hk with hk | ⟨hk, _⟩
    · exact hk
    · omega
  have hk2 : ∀ {b j : Nat}, w.heap.size ≤ b → keptJoin K K1 w.heap.size b j → K1 b j := fun {b j} hb hk => by
    rcases hk with hk | ⟨_, hk⟩
    · obtain ⟨v, hv⟩ := h.live b j hk
      have := World.block_lt_of_cell? w _ hv
      simp only at this
      omega
    · exact hk
  have hx : Ext K w (keptJoin K K1 w.heap.size) w' := ⟨fun b j hk => ⟨.inl hk, (j2.kept b j hk).2⟩, j2.shape, j2.size, j2.marks⟩
  have hab := h1.above
  rw [hB] at hab
  have hx2 : Ext K w' (keptJoin K K1 w.heap.size) w' := ⟨fun b j hk => ⟨.inl hk, rfl⟩, fun _ _ h => h, Nat.le_refl _, fun _ h => h⟩
  have htop := h.top
  have hwf := h.wf
  refine ⟨⟨j1.below, j1.base, fun b j hk => ?_, fun b cs hk => ?_, fun b T n hk => ?_, fun b o hk => ?_, Nat.max_le.2 ⟨j1.top, h1.top⟩, G.stable _ _ _ _ h.since hx⟩, hx⟩
  · rcases hk with hk | ⟨_, hk⟩
    · exact j1.live b j hk
    · exact h1.live b j hk
  · simp only [LS.join] at hk ⊢
    cases hq : S1.box b with
    | some cs1 =>
      rw [hq] at hk
      obtain rfl : cs1 = cs := by simpa using hk
      obtain ⟨i1, i2, c, T, i3, i4, i5, i6⟩ := h1.box b cs1 hq
      have hb := hab.box b _ hq
      exact ⟨Nat.le_trans h.base hb, by omega, c, T, i3, i4, fun j x v hj hv => (i5 j x v hj hv).flatAny (List.all_eq_true.1 (hrep b cs1 hq) x (List.mem_of_getElem? hj)), fun j hk => i6 j (hk2 hb hk)⟩
    | none =>
      rw [hq] at hk
      have hk : S.box b = some cs := by simpa using hk
      obtain ⟨i1, i2, c', T', k3, k4, k5, k6⟩ := j1.box b cs hk
      exact ⟨i1, by omega, c', T', k3, k4, fun j x v hj hv => (k5 j x v hj hv).mono hx2, fun j hk => k6 j (hk1 (by omega) hk)⟩
  · simp only [LS.join] at hk ⊢
    cases hq : S1.row b with
    | some y =>
      rw [hq] at hk
      obtain rfl : y = (T, n) := by simpa using hk
      obtain ⟨i1, i2, i3, c, i4, i5⟩ := h1.row b T n hq
      have hb := hab.row b _ hq
      exact ⟨Nat.le_trans h.base hb, by omega, by rw [i3, hwf.box b (by omega)]; rfl, c, i4, fun j hj hk => by rw [← hP] at hj; exact i5 j hj (hk2 hb hk)⟩
    | none =>
      rw [hq] at hk
      have hk : S.row b = some (T, n) := by simpa using hk
      obtain ⟨i1, i2, i3, c, i4, i5⟩ := j1.row b T n hk
      have e1 : S1.box b = Option.none := by
        cases hq : S1.box b with
        | none => rfl
        | some y => have := hab.box b y hq; omega
      exact ⟨i1, by omega, by rw [i3, e1]; rfl, c, i4, fun j hj hk => i5 j hj (hk1 (by omega) hk)⟩
  · simp only [LS.join] at hk ⊢
    cases hq : S1.obj b with
    | some y =>
      rw [hq] at hk
      obtain rfl : y = o := by simpa using hk
      obtain ⟨i1, i2, i3, i4⟩ := h1.obj b y hq
      have hb := hab.obj b _ hq
      exact ⟨Nat.le_trans h.base hb, by omega, i3, i4⟩
    | none =>
      rw [hq] at hk
      have hk : S.obj b = some o := by simpa using hk
      obtain ⟨i1, i2, i3, i4⟩ := j1.obj b o hk
      exact ⟨i1, by omega, i3, i4⟩

/-- A call of a function that makes new memory, whatever it looks at looked at as what stays. -/
theorem LDo.callAny {G : Ctx} {o : Oper} {T : Nat → TV} {S : LS} {f : FuncId} {fn : Func} {xs : List Operand} {ts : Array TypeId} {args : List TV} {R : TV → LS → Prop}
    (h : ∀ (G' : Ctx) (S0 : LS), G'.P = G.P → LCalls G' f args (fun r S' => flatTV r = true ∧ (∀ b cs, S0.box b = Option.none → S'.box b = some cs → cs.all flatLV = true) ∧ R r S') S0) (ho : o.op = .call { callee := .value (.func f), args := xs.toArray, argTypes := ts }) (hf : G.P.funcs[f]? = some fn) (hb : fn.body.isSome = true) (hn : fn.name ≠ "runtime.NumGoroutine")
    (hv : viewsT S (xs.map (lev T)) args) : LDo G o T S (fun r S' => ∃ S1, R r S1 ∧ S1.above S.top ∧ S.le (S.join S1) ∧ S' = S.join S1) := by
  intro K w a hi hr
  have hrun : (execOp a.eval o).run G.P w = .ok (.enter f (xs.map a.eval).toArray) w := by
    have hbn : fn.body ≠ none := fun e => by rw [e] at hb; cases hb
    simp [execOp, ho, resolve, Act.eval, Deferred.ofValue, invoke, callFunc, hf, hn, hbn]
  unfold Oper.wp
  rw [hrun]
  have hargs := argsAny hi (G' := { P := G.P, base := w.heap.size, W0 := w }) rfl hv (fun x hx => hr x (by rw [ho]; simp [Op.operands, Call.operands]; exact .inr hx))
  refine (h { P := G.P, base := w.heap.size, W0 := w } (LS.none w.heap.size) rfl (allCells w) w _ (Inv.none G.P w) hargs).mono fun e w' hp => ?_
  obtain ⟨r', v, S', K', rfl, h2, h3, h4, h5, h6, h7⟩ := hp
  have hab := h3.above
  obtain ⟨j1, j2⟩ := hi.join (G1 := { P := G.P, base := w.heap.size, W0 := w }) rfl rfl rfl h3 (fun b cs hb => h6 b cs rfl hb)
  have hab' : S'.above S.top := ⟨fun b x hb => Nat.le_trans hi.top (hab.box b x hb), fun b x hb => Nat.le_trans hi.top (hab.row b x hb), fun b x hb => Nat.le_trans hi.top (hab.obj b x hb)⟩
  exact ⟨r', v, _, _, rfl, h2.flatAny h5, j1, j2, S', h7, hab', .join hi.wf hab', rfl⟩
end Go.Proofs.Ytgkjhlmfgaaddaa.LF
end

section
/- append of a string to bytes; joins of strings. -/
namespace Go.Proofs.Ytgkjhlmfgaaddaa.LF
open Go.RowKit
set_option linter.unusedVariables false

theorem Flat.ofBytes (G : Ctx) (w : World) (K : Kept) (s : ByteArray) : Flat G w K 1 (s.data.toList.map byL) (byteCells s) := by
  refine ⟨by rw [byteCells_length, List.length_map, Array.length_toList, Nat.mul_one]; rfl, fun e he => ?_, fun i j x hx => ?_⟩
  · obtain ⟨c, _, rfl⟩ := List.mem_map.1 he; rfl
  · unfold cellOf at hx
    rw [List.getElem?_map] at hx
    cases hq : s.data.toList[i]? with
    | none => rw [hq] at hx; simp at hx
    | some c =>
      rw [hq] at hx
      simp only [Option.map_some, Option.bind_some] at hx
      cases j with
      | succ j => simp [byL] at hx
      | zero =>
        obtain rfl : LV.v (.int .u8 (c.toNat : Int)) = x := by simpa [byL] using hx
        exact ⟨_, by rw [Nat.mul_one, Nat.add_zero]; unfold byteCells; rw [List.getElem?_map, hq]; rfl, .raw _ rfl⟩

/-- append of a string onto bytes that are nil or the call's own. -/
theorem LDo.appendStr {G : Ctx} {D : Tab} (hD : TabOK G.P D) {o : Oper} {T : Nat → TV} {S : LS} {t tx e : TypeId} {s x : Operand} {o1 : Own} {es : List (List LV)} {str : ByteArray} {i j ix : TI}
    (ho : o.op = .call { callee := .builtin .append, args := #[s, x], argTypes := #[t, tx] }) (hs : lev T s = .one (.sl o1 es)) (hx : lev T x = .one (.v (.string str))) (hi : D.get t = some i) (hd : i.desc = .slice e) (hj : D.get e = some j) (hix : D.get tx = some ix) (hdx : ix.desc = .string)
    (hsz : Nat.beq j.size 1 = true) (hzs : j.zero.cells.size = j.size) (hby : Nat.ble j.bytes 1024 = true) {n : Nat} (hn : es.length = n) (hown : Owned S e n o1) (hl : n + str.size ≤ 100000000) :
    LDo G o T S (fun r S' => ∃ o', r = .one (.sl o' (es ++ str.data.toList.map byL)) ∧ Owned S' e (n + str.size) o' ∧ S.upto o1 S' ∧ ∀ b, o' = .own b → o1 = .own b ∨ S.fresh b) := by
  subst hn
  refine .of_run fun K w ac hi' hr => ?_
  have h1 := hr s (by rw [ho]; simp [Op.operands, Call.operands])
  have h2 := hr x (by rw [ho]; simp [Op.operands, Call.operands])
  rw [hs] at h1
  rw [hx] at h2
  have e1 := (hD.get hi).und
  rw [hd] at e1
  have ex := (hD.get hix).und
  rw [hdx] at ex
  have tj := hD.get hj
  have hsz1 : j.size = 1 := Nat.eq_of_beq_eq_true hsz
  have hsz' : 0 < j.size := by omega
  obtain ⟨ji, q1, q2, q3, q4⟩ := tj.info
  have hze : j.size = G.P.cellsOf e := (cellsOf' tj).symm
  have r1 := h1.of_one
  have hxv := h2.flat
  have hbytes : (es.length + str.size) * j.bytes ≤ 140737488355328 := Nat.le_trans (Nat.mul_le_mul hl (Nat.le_of_ble_eq_true hby)) (by decide)
  have hex : ∀ v w', (Builtin.append_ #[t, tx] o.type #[ac.eval s, ac.eval x]).run G.P w = .ok v w' → (execOp ac.eval o).run G.P w = .ok (.value v) w' := fun v w' h => by
    simp [execOp, ho, resolve, invoke, builtin, h]
  have hlen2 : (str.data.toList.map byL).length = str.size := by rw [List.length_map, Array.length_toList]; rfl
  have f3 : Flat G w K j.size (str.data.toList.map byL) (byteCells str) := by rw [hsz1]; exact Flat.ofBytes G w K str
  have src : Src G.P ji.size tx (ac.eval x) str.size (byteCells str) w := by rw [hxv, q2, hsz1]; exact Src.ofString w ex str
  have hzl : ∀ n, (Builtin.zeroCells j.zero.cells n).size = n * j.size := fun n => by rw [size_zeroCells, hzs]
  have hmx : es.length + str.size ≤ maxLen := by unfold maxLen; omega
  cases o1 with
  | sh => exact hown.elim
  | nil =>
    have hes : es = [] := List.length_eq_zero_iff.1 hown
    subst hes
    have hsv : ac.eval s = .slice none 0 0 := by
      generalize ac.eval s = v at r1
      cases r1 with
      | nil => rfl
      | row _ _ _ _ _ _ _ hn => exact absurd rfl hn
    simp only [List.length_nil, Nat.zero_add] at hbytes hl hmx
    by_cases hpos : str.size = 0
    · have hdl : str.data.toList = [] := List.length_eq_zero_iff.1 (by rw [Array.length_toList]; exact hpos)
      have hrun : (Builtin.append_ #[t, tx] o.type #[.slice none 0 0, ac.eval x]).run G.P w = .ok (.slice none 0 0) w := by
        have hc := src.cells
        have hl' := src.len
        rw [hpos] at hc hl'
        simp [Builtin.append_, run_underlying e1, run_underlying ex, run_sizeOf' tj, hl', q2 ▸ hc]
      refine ⟨_, _, S, K, w, hex _ _ (by rw [hsv]; exact hrun), .one .nil, hi', .refl _ _, .nil, by rw [hdl]; rfl, ?_, ⟨fun _ _ h => h, fun _ _ _ h => h, fun _ _ h => h, Nat.le_refl _⟩, fun b hb => by cases hb⟩
      simp [Owned, hpos]
    · have hrun := run_append_grow_src (P := G.P) w t tx o.type e ji j.zero e1 q1 q4 none 0 0 [] (by simp [Builtin.firstCells]) (ac.eval x) str.size (byteCells str) src (by omega) (by omega) (by
        rw [q3]; exact growslice_fits (by omega) (by simpa using hbytes))
      simp only [Nat.zero_add, List.nil_append] at hrun
      rw [← hsv] at hrun
      have hge := grownCap_ge w str.size 0 e
      have hcm := grownCap_le_maxLen w str.size 0 e hmx
      obtain ⟨g1, g2, g3⟩ := hi'.drew.newRow (e := e) (z := j.size) (cap := grownCap w str.size 0 e) (f3.mono (.drew K w)) hze ((byteCells str).toArray ++ Builtin.zeroCells j.zero.cells (grownCap w str.size 0 e - str.size)) (by
          rw [Array.toList_append, ← f3.len]; exact List.take_left) (by
          rw [Array.size_append, hzl, List.size_toArray, f3.len, hlen2, ← Nat.add_mul]; congr 1; omega) (by rw [hlen2]; exact hge) hcm
      rw [hlen2] at g1 g2 g3
      refine ⟨_, _, _, _, _, hex _ _ hrun, .one g3, g1, (Ext.drew K w).trans g2, .own w.heap.size, rfl, ?_, LS.fresh_newRow hi'.fresh e _ _, fun b hb => .inr ?_⟩
      · simp only [Owned, List.length_nil, Nat.zero_add]; exact row_new S _ e _
      · obtain rfl : w.heap.size = b := by simpa using hb
        exact hi'.fresh
  | own b =>
    obtain ⟨p1, p2, p3, cur, p4, p5⟩ := hi'.row b e _ hown
    obtain ⟨cap, vs, g1, g2, g3, g4, g5, g6⟩ := r1.ownRow hsz' hze p4
    have hnl : (byteCells str).length = str.size * j.size := by rw [byteCells_length, hsz1, Nat.mul_one]
    by_cases hroom : es.length + str.size ≤ cap
    · have hfit : es.length * j.size + (byteCells str).length ≤ cur.size := by rw [hnl, g5, ← Nat.add_mul]; exact Nat.mul_le_mul_right _ hroom
      have hst := run_storeCells_at G.P b (es.length * j.size) e (byteCells str) 0 cur w p4 (by simpa using hfit) src.one
      simp only [Nat.add_zero] at hst
      have hrun : (Builtin.append_ #[t, tx] o.type #[ac.eval s, ac.eval x]).run G.P w = .ok (.slice (some ⟨b, 0, none⟩) (es.length + str.size) cap) (w.setRow b (cur.toList.take (es.length * j.size) ++ byteCells str ++ cur.toList.drop (es.length * j.size + (byteCells str).length)).toArray) := by
        have hc := src.cells
        have hl' := src.len
        rw [q2] at hc
        rw [g1]
        simp [Builtin.append_, run_underlying e1, run_underlying ex, run_sizeOf' tj, hl', hroom, hc, Addr.add_lit, hst]
      obtain ⟨k1, k2, k3⟩ := hi'.growRow hown g3 f3 hze g4 cur p4 g5 (by rw [hlen2]; exact hroom) g6 _ rfl
      rw [List.length_append] at k3
      rw [hlen2] at k1 k2 k3
      exact ⟨_, _, _, _, _, hex _ _ hrun, .one k3, k1, k2, .own b, rfl, by simp only [Owned, LS.setRow]; simp, ⟨fun _ _ h => h, fun c x hc hx => by
        simp only [LS.setRow]
        rcases beq_cases c b (some (e, es.length + str.size)) (S.row c) with ⟨rfl, _⟩ | ⟨_, e2⟩
        · exact absurd rfl hc
        · rw [e2]; exact hx, fun _ _ h => h, Nat.le_refl _⟩, fun b' hb' => .inl hb'⟩
    · have hold : (Builtin.firstCells ji.size es.length (.slice (some ⟨b, 0, none⟩) es.length cap)).run G.P w.drew = .ok vs.toArray w.drew :=
        run_firstCells_some w.drew ji.size es.length ⟨b, 0, none⟩ es.length cap vs (by rw [q2]; exact g3.len) (fun q u hq => by rw [add_off]; simpa using (g4 q u hq).1)
      have hrun := run_append_grow_src (P := G.P) w t tx o.type e ji j.zero e1 q1 q4 (some ⟨b, 0, none⟩) es.length cap vs hold (ac.eval x) str.size (byteCells str) src (by omega) (by omega) (by
        rw [q3]; exact growslice_fits (by omega) hbytes)
      rw [← g1] at hrun
      have hge := grownCap_ge w (es.length + str.size) cap e
      have hcm := grownCap_le_maxLen w (es.length + str.size) cap e hmx
      have hlen : (es ++ str.data.toList.map byL).length = es.length + str.size := by rw [List.length_append, hlen2]
      obtain ⟨k1, k2, k3⟩ := hi'.drew.newRow (e := e) (z := j.size) (cap := grownCap w (es.length + str.size) cap e) ((g3.append f3).mono (.drew K w)) hze ((vs ++ byteCells str).toArray ++ Builtin.zeroCells j.zero.cells (grownCap w (es.length + str.size) cap e - (es.length + str.size))) (by
          rw [Array.toList_append, ← (g3.append f3).len]; exact List.take_left) (by
          rw [Array.size_append, hzl, List.size_toArray, List.length_append, hnl, g3.len, ← Nat.add_mul, ← Nat.add_mul]; congr 1; omega) (by rw [hlen]; exact hge) hcm
      rw [hlen] at k1 k2 k3
      refine ⟨_, _, _, _, _, hex _ _ hrun, .one k3, k1, (Ext.drew K w).trans k2, .own w.heap.size, rfl, ?_, LS.fresh_newRow hi'.fresh e _ _, fun b hb => .inr ?_⟩
      · simp only [Owned]; exact row_new S _ e _
      · obtain rfl : w.heap.size = b := by simpa using hb
        exact hi'.fresh

theorem LVal.shrI {G : Ctx} {o : Oper} {T : Nat → TV} {S : LS} {t u : TypeId} {x y : Operand} {k' : IntKind} {a b : Int} (ho : o.op = .binOp .shr t x y u)
    (hx : lev T x = .one (.v (.int .i64 a))) (hy : lev T y = .one (.v (.int k' b))) (h : 0 ≤ b ∧ b ≤ 64) : LVal G o T S (.one (.v (.int .i64 (a / 2 ^ b.toNat)))) :=
  .of_run fun K w ac hi hr => by
    have h1 := hr x (by rw [ho]; simp [Op.operands])
    have h2 := hr y (by rw [ho]; simp [Op.operands])
    rw [hx] at h1
    rw [hy] at h2
    refine ⟨.int .i64 (a / 2 ^ b.toNat), ?_, .raw rfl⟩
    have hb : IntKind.i64.bits = 64 := rfl
    simp only [execOp, ho, h1.flat, h2.flat, Sem.run_bind, eqGuard_flat (by simp : ∀ xs, Value.int .i64 a ≠ .agg xs) (by simp), Result.andThen_ok, binOp_shr, shift_shr .i64 k' a b h.1 (by omega), Sem.run_pure]

end Go.Proofs.Ytgkjhlmfgaaddaa.LF
end

section
/- Joins of strings. -/
namespace Go.Proofs.Ytgkjhlmfgaaddaa.LF
open Go.RowKit

theorem LVal.addStr {G : Ctx} {o : Oper} {T : Nat → TV} {S : LS} {t u : TypeId} {x y : Operand} {a b : ByteArray} (ho : o.op = .binOp .add t x y u) (hx : lev T x = .one (.v (.string a))) (hy : lev T y = .one (.v (.string b))) (h : a.size + b.size ≤ 9223372036854775807) :
    LVal G o T S (.one (.v (.string (a ++ b)))) :=
  .of_run fun K w ac hi hr => by
    have h1 := hr x (by rw [ho]; simp [Op.operands])
    have h2 := hr y (by rw [ho]; simp [Op.operands])
    rw [hx] at h1
    rw [hy] at h2
    refine ⟨.string (a ++ b), ?_, .raw rfl⟩
    have hn : ¬ (((a.size + b.size : Nat) : Int) > IntKind.i64.max) := by
      have : IntKind.i64.max = 9223372036854775807 := rfl
      omega
    simp only [execOp, ho, h1.flat, h2.flat, Sem.run_bind, eqGuard_flat (by simp : ∀ xs, Value.string a ≠ .agg xs) (by simp), Result.andThen_ok, Go.binOp, Op.stringOp, hn, if_false, Sem.run_pure]
end Go.Proofs.Ytgkjhlmfgaaddaa.LF
end

section
/- Pointers to what stays, as cells: made by freezing a variable. -/
namespace Go.Proofs.Ytgkjhlmfgaaddaa.LF
open Go.RowKit
set_option linter.unusedVariables false

theorem LS.le.delBox {S S' : LS} (h : S.le S') {b : Nat} (hb : S.box b = Option.none) : S.le (S'.delBox b) :=
  ⟨fun c x hc => (box_del_ne S' (fun e => by rw [e, hb] at hc; cases hc)).trans (h.box c x hc), h.row, h.obj, h.top⟩

/-- A variable becomes what stays. -/
theorem frozen_ptr {G : Ctx} {n : Nat} {T : Nat → TV} {S : LS} {d b : Nat} {cs : List LV} (hd : T d = .one (.v (.pointer (some ⟨b, 0, none⟩)))) (hb : S.box b = some cs) :
    ∀ K w (a : Act), Inv G S K w → RelT G w K n T a → ∃ K', Inv G (S.delBox b) K' w ∧ RelT G w K' n (upd T d (.one (.p cs))) a ∧ Ext K w K' w := fun K w a hi hr => by
  obtain ⟨j1, j2⟩ := hi.freeze hb
  refine ⟨_, j1, ⟨hr.1, fun q => ?_⟩, j2⟩
  by_cases hq : q = d
  · subst hq
    rw [upd_same]
    have hv := hr.2 q
    rw [hd] at hv
    rw [hv.flat]
    obtain ⟨cur, T0, c1, c2, c3⟩ := hi.cells hb
    refine .one (.ptr cs b 0 (fun j => cur.getD j undef) (fun j x hj => ?_) fun j x hj => ?_)
    · obtain ⟨v, d1, d2, d3⟩ := c3 j x hj
      have : cur.getD j undef = v := by rw [Array.getD_eq_getD_getElem?, d1]; rfl
      rw [Nat.zero_add, this]
      exact ⟨d2, .inr ⟨rfl, (List.getElem?_eq_some_iff.1 hj).1⟩⟩
    · obtain ⟨v, d1, d2, d3⟩ := c3 j x hj
      have : cur.getD j undef = v := by rw [Array.getD_eq_getD_getElem?, d1]; rfl
      rw [this]
      exact d3.mono j2
  · rw [upd_ne T _ hq]; exact (hr.2 q).mono j2
theorem LWp.freezeP (d : Nat) {G : Ctx} {M : Option Nat} {n : Nat} {code : Code} {Q : Exit → (Nat → TV) → LS → Prop} {T : Nat → TV} {S : LS} {b : Nat} {cs : List LV} (hd : T d = .one (.v (.pointer (some ⟨b, 0, none⟩)))) (hb : S.box b = some cs)
    (k : LWp G M n code Q (upd T d (.one (.p cs))) (S.delBox b)) : LWp G M n code Q T S := .conv (frozen_ptr hd hb) k
theorem LOps.freezeP (d : Nat) {G : Ctx} {M : Option Nat} {n : Nat} {ops : Array Oper} {l : List Oper} {Q : (Nat → TV) → LS → Prop} {T : Nat → TV} {S : LS} {b : Nat} {cs : List LV} (hd : T d = .one (.v (.pointer (some ⟨b, 0, none⟩)))) (hb : S.box b = some cs)
    (k : LOps G M n ops l Q (upd T d (.one (.p cs))) (S.delBox b)) : LOps G M n ops l Q T S := .conv (frozen_ptr hd hb) k

theorem LRes.three {G : Ctx} {n : Nat} {fn : Func} {T : Nat → TV} {S : LS} {t u z : Tmp} (h : fn.results = #[.tmp t, .tmp u, .tmp z]) : LRes G n fn T S (.tup [T t, T u, T z]) :=
  fun K w a _ hr => ⟨.tuple #[a.tmps.getD t undef, a.tmps.getD u undef, a.tmps.getD z undef], by simp [results, h], .tup _ _ rfl fun j x v hj hv => by
    match j with
    | 0 =>
      obtain rfl : T t = x := by simpa using hj
      obtain rfl : a.tmps.getD t undef = v := by simpa using hv
      exact hr.2 t
    | 1 =>
      obtain rfl : T u = x := by simpa using hj
      obtain rfl : a.tmps.getD u undef = v := by simpa using hv
      exact hr.2 u
    | 2 =>
      obtain rfl : T z = x := by simpa using hj
      obtain rfl : a.tmps.getD z undef = v := by simpa using hv
      exact hr.2 z
    | j + 3 => simp at hj⟩

/-- A call of a function value without what it captured. -/
theorem LVal.callF2 {G : Ctx} {o : Oper} {T : Nat → TV} {S : LS} {g : Operand} {f : FuncId} {fn : Func} {xs : List Operand} {ts : Array TypeId} {args : List TV} {r : TV}
    (ho : o.op = .call { callee := .value g, args := xs.toArray, argTypes := ts }) (hg : lev T g = .one (.v (.func (.func f) #[] #[]))) (hx : xs.map (fun x => shTV (lev T x)) = args) (hf : G.P.funcs[f]? = some fn) (hb : fn.body.isSome = true) (hn : fn.name ≠ "runtime.NumGoroutine")
    (h : LFun G f args r) : LVal G o T S r := by
  intro K w a hi hr
  have hgv := hr g (by rw [ho]; simp [Op.operands, Call.operands])
  rw [hg] at hgv
  have hrun : (execOp a.eval o).run G.P w = .ok (.enter f (xs.map a.eval).toArray) w := by
    have hbn : fn.body ≠ none := fun e => by rw [e] at hb; cases hb
    simp [execOp, ho, resolve, hgv.flat, Deferred.ofValue, invoke, callFunc, hf, hn, hbn]
  unfold Oper.wp
  rw [hrun]
  have hargs : ArgsRel G w K args (xs.map a.eval).toArray := by
    subst hx
    refine ⟨by simp, fun i x v hx' hv => ?_⟩
    rw [List.getElem?_map] at hx'
    rw [List.getElem?_toArray, List.getElem?_map] at hv
    cases hq : xs[i]? with
    | none => rw [hq] at hx'; simp at hx'
    | some y =>
      rw [hq] at hx' hv
      simp only [Option.map_some, Option.some.injEq] at hx' hv
      subst hx'; subst hv
      exact (hr y (by rw [ho]; simp [Op.operands, Call.operands]; exact .inr (List.mem_of_getElem? hq))).shTV
  refine (h S K w _ hi hargs).mono fun e w' hp => ?_
  obtain ⟨r', v, S', K', rfl, h2, h3, h4, rfl, rfl⟩ := hp
  exact ⟨v, K', rfl, h2, h3, h4⟩
end Go.Proofs.Ytgkjhlmfgaaddaa.LF
end

section
/- The nil slice: its room, its part, zeros appended to it; a call with its operands as they are. -/
namespace Go.Proofs.Ytgkjhlmfgaaddaa.LF
open Go.RowKit
set_option linter.unusedVariables false

theorem LDo.callX {G : Ctx} {o : Oper} {T : Nat → TV} {S : LS} {f : FuncId} {fn : Func} {xs : List Operand} {ts : Array TypeId} {args : List TV} {R : TV → LS → Prop}
    (h : LCalls G f args R S) (hf : G.P.funcs[f]? = some fn) (ho : o.op = .call { callee := .value (.func f), args := xs.toArray, argTypes := ts } := by rfl) (hx : xs.map (lev T) = args := by rfl) (hb : fn.body.isSome = true := by rfl) (hn : fn.name ≠ "runtime.NumGoroutine" := by decide) : LDo G o T S R := by
  intro K w a hi hr
  have hrun : (execOp a.eval o).run G.P w = .ok (.enter f (xs.map a.eval).toArray) w := by
    have hbn : fn.body ≠ none := fun e => by rw [e] at hb; cases hb
    simp [execOp, ho, resolve, Act.eval, Deferred.ofValue, invoke, callFunc, hf, hn, hbn]
  unfold Oper.wp
  rw [hrun]
  refine (h K w _ hi ⟨by rw [← hx]; simp, fun i x v hx' hv => ?_⟩).mono fun e w' hp => ?_
  · subst hx
    rw [List.getElem?_map] at hx'
    rw [List.getElem?_toArray, List.getElem?_map] at hv
    cases hq : xs[i]? with
    | none => rw [hq] at hx'; simp at hx'
    | some y =>
      rw [hq] at hx' hv
      simp only [Option.map_some, Option.some.injEq] at hx' hv
      subst hx'; subst hv
      exact hr y (by rw [ho]; simp [Op.operands, Call.operands]; exact .inr (List.mem_of_getElem? hq))
  · obtain ⟨r', v, S', K', rfl, h2, h3, h4, h5⟩ := hp
    exact ⟨r', v, S', K', rfl, h2, h3, h4, h5⟩

/-- A new variable that stays: a pointer to its cells. -/
theorem LVal.boxP {G : Ctx} {o : Oper} {T : Nat → TV} {S : LS} {t : TypeId} {x : Operand} {l : List LV} (ho : o.op = .box t x) (hx : tcells (lev T x) = some l) : LVal G o T S (.one (.p l)) :=
  fun K w a hi hr => by
    have h1 := hr x (by rw [ho]; simp [Op.operands])
    obtain ⟨h2, h3⟩ := h1.cells hx
    have hrun : (execOp a.eval o).run G.P w = .ok (.value (.pointer (some ⟨w.heap.size, 0, none⟩))) (w.alloc (.cells (a.eval x).cells t)) := by
      simp [execOp, ho, Instr.box, newVar, newRow]
    have i1 := hi.newBox _ t _ h2 h3
    have i2 := Ext.alloc hi (.cells (a.eval x).cells t)
    have hb := box_new S w.heap.size l
    obtain ⟨j1, j2⟩ := i1.freeze hb
    have hf := hi.fresh
    unfold Oper.wp
    rw [hrun]
    refine ⟨_, _, rfl, ?_, j1.forget ((LS.le.newBox (.refl _) hf _).delBox hf.box) hi.wf (fun b x hb => (hi.row b x.1 x.2 hb).2.2.1), i2.trans j2⟩
    obtain ⟨cur, T0, c1, c2, c3⟩ := i1.cells hb
    refine .one (.ptr l w.heap.size 0 (fun j => cur.getD j undef) (fun j x hj => ?_) fun j x hj => ?_)
    · obtain ⟨v, d1, d2, d3⟩ := c3 j x hj
      have : cur.getD j undef = v := by rw [Array.getD_eq_getD_getElem?, d1]; rfl
      rw [Nat.zero_add, this]
      exact ⟨d2, .inr ⟨rfl, (List.getElem?_eq_some_iff.1 hj).1⟩⟩
    · obtain ⟨v, d1, d2, d3⟩ := c3 j x hj
      have : cur.getD j undef = v := by rw [Array.getD_eq_getD_getElem?, d1]; rfl
      rw [this]
      exact d3.mono j2

section
variable {G : Ctx} {D : Tab} (hD : TabOK G.P D) {o : Oper} {T : Nat → TV} {S : LS} {t e : TypeId} {i j : TI}
include hD

theorem LVal.capNil {x : Operand} (ho : o.op = .call { callee := .builtin .cap, args := #[x], argTypes := #[t] })
    (hx : lev T x = .one (.sl .nil [])) (hi : D.get t = some i) (hd : i.desc = .slice e) : LVal G o T S (.one (.v (.int .i64 0))) :=
  .of_run fun K w ac hi' hr => by
    have h1 := hr x (by rw [ho]; simp [Op.operands, Call.operands])
    rw [hx] at h1
    have e1 := (hD.get hi).und
    rw [hd] at e1
    have hv : ac.eval x = .slice none 0 0 := by
      have := h1.of_one
      generalize ac.eval x = v at this
      cases this with
      | nil => rfl
      | row _ _ b off cap z c hn => exact absurd rfl hn
    refine ⟨_, ?_, .raw rfl⟩
    simp [execOp, ho, resolve, invoke, builtin, hv, Builtin.cap_, run_underlying e1, goInt]

theorem LVal.sliceNil {x : Operand} {lo hi : Option Operand} {l h : Int} (ho : o.op = .slice t x lo hi none)
    (hx : lev T x = .one (.sl .nil [])) (hi' : D.get t = some i) (hd : i.desc = .slice e) (hj : D.get e = some j) (el : bnd T 0 lo = some l) (eh : bnd T (0 : Nat) hi = some h) (h0 : l = 0) (h1 : h = 0) :
    LVal G o T S (.one (.sl .nil [])) :=
  .of_run fun K w ac hi'' hr => by
    have r1 := hr x (by rw [ho]; simp [Op.operands])
    rw [hx] at r1
    subst h0; subst h1
    have e1 := (hD.get hi').und
    rw [hd] at e1
    have rlo : ∀ x, lo = some x → RepT G w K (lev T x) (ac.eval x) := fun x hx => hr x (by rw [ho, hx]; simp [Op.operands])
    have rhi : ∀ x, hi = some x → RepT G w K (lev T x) (ac.eval x) := fun x hx => hr x (by rw [ho, hx]; simp [Op.operands])
    have hv : ac.eval x = .slice none 0 0 := by
      have := r1.of_one
      generalize ac.eval x = v at this
      cases this with
      | nil => rfl
      | row _ _ b off cap z c hn => exact absurd rfl hn
    have hb := run_bounds (isS := true) (cap := 0) rlo rhi el eh (by omega) (by omega) (by omega)
    refine ⟨.slice none 0 0, ?_, .one .nil⟩
    have h3 := sliceAt_slice (w := w) e1 (ac.eval x) (lo.map ac.eval) (hi.map ac.eval) none
    simp only [execOp, ho, Sem.run_bind, Option.map_none, h3]
    simp only [hv, Instr.slice, run_underlying e1, Sem.run_bind, Result.andThen_ok, hb, run_sizeOf' (hD.get hj), Sem.run_pure]
    simp

/-- append of zeros to nil. -/
theorem LDo.appendZerosN {s x : Operand} {m : Nat} {k : IntKind} {tn : TypeId} {in' : TI} {kn : IntKind} (ho : o.op = .call { callee := .builtin .append, args := #[s, x], argTypes := #[t, tn] })
    (hs : lev T s = .one (.sl .nil [])) (hx : lev T x = .one (.v (.int k (m : Int)))) (hi : D.get t = some i) (hd : i.desc = .slice e) (hj : D.get e = some j) (hn : D.get tn = some in') (hdn : in'.desc = .int kn) (hsz : Nat.blt 0 j.size = true) (hz : j.zero.cells.toList.all Value.oneCell' = true) (hby : Nat.ble j.bytes 1024 = true)
    (h0 : 0 < m) (hbig : m ≤ 100000000) :
    LDo G o T S (fun r S' => ∃ b' c', S.fresh b' ∧ m ≤ c' ∧ r = .one (rsl b' 0 m c') ∧ S' = S.newBox b' (zrow j m ++ zrow j (c' - m))) :=
  .of_run fun K w ac hi' hr => by
    have r1 := hr s (by rw [ho]; simp [Op.operands, Call.operands])
    have r2 := hr x (by rw [ho]; simp [Op.operands, Call.operands])
    rw [hs] at r1
    rw [hx] at r2
    have e1 := (hD.get hi).und
    rw [hd] at e1
    have en := (hD.get hn).und
    rw [hdn] at en
    have hsz' : 0 < j.size := by simpa [Nat.blt_eq] using hsz
    have hby' : j.bytes ≤ 1024 := Nat.le_of_ble_eq_true hby
    obtain ⟨ji, q1, q2, q3, q4⟩ := (hD.get hj).info
    have hv : ac.eval s = .slice none 0 0 := by
      have := r1.of_one
      generalize ac.eval s = v at this
      cases this with
      | nil => rfl
      | row _ _ b off cap z c hn => exact absurd rfl hn
    have hbytes : (0 + m) * j.bytes ≤ 140737488355328 := Nat.le_trans (Nat.mul_le_mul (show 0 + m ≤ 100000000 by omega) hby') (by decide)
    have hg : 0 < 0 + m := by omega
    have hmb : m * j.bytes ≤ (0 + m) * j.bytes := Nat.mul_le_mul_right _ (by omega)
    have hrun := Lib.run_append_grow_zeros (P := G.P) w t tn o.type e ji j.zero k kn e1 en q1 q4 none 0 0 [] (by simp [Builtin.firstCells]) m h0 (by rw [q2]; exact hsz') hg (by omega) (by rw [q3]; omega) (by rw [q3]; exact growslice_fits hg hbytes)
    have hge := grownCap_ge w (0 + m) 0 e
    simp only [Nat.zero_add] at hrun hge
    have hinv := hi'.drew.newBox (([] : List Value).toArray ++ Builtin.zeroCells j.zero.cells m ++ Builtin.zeroCells j.zero.cells (grownCap w m 0 e - m)) e (zrow j m ++ zrow j (grownCap w m 0 e - m)) (by
        rw [Array.size_append, Array.size_append, List.size_toArray, List.length_append, zrow_length, zrow_length, size_zeroCells, size_zeroCells]; simp) (fun q y u hy hu => by
        refine Rep.mono (.drew K w) (append_get_rep (l := zrow j m) (vs := (Builtin.zeroCells j.zero.cells m).toList) (vs2 := (Builtin.zeroCells j.zero.cells (grownCap w m 0 e - m)).toList) (by rw [zrow_length, Array.length_toList, size_zeroCells]) (fun q y u hy hu => zrow_rep G w K hz _ q y u hy (by simpa using hu)) (fun q y u hy hu => zrow_rep G w K hz _ q y u hy (by simpa using hu)) q y u hy ?_)
        rw [← Array.getElem?_toList, Array.toList_append, Array.toList_append] at hu
        simpa using hu)
    have hext : Ext K w K (w.drew.alloc (.cells (([] : List Value).toArray ++ Builtin.zeroCells j.zero.cells m ++ Builtin.zeroCells j.zero.cells (grownCap w m 0 e - m)) e)) := (Ext.drew K w).trans (Ext.alloc hi'.drew _)
    refine ⟨_, _, _, _, _, ?_, .raw rfl, hinv, hext, w.heap.size, grownCap w m 0 e, hi'.fresh, hge, rfl, rfl⟩
    simp [execOp, ho, resolve, invoke, builtin, hv, r2.flat, hrun]
end
/-- All of them, one behind the other, so far. -/
def catN (ls : List (List (List LV))) (k : Nat) : List (List LV) := (ls.take k).flatten
theorem catN_step {ls : List (List (List LV))} {k : Nat} (h : k < ls.length) : catN ls (k + 1) = catN ls k ++ ls[k] := by
  unfold catN
  rw [List.take_succ_eq_append_getElem h, List.flatten_append]; simp
theorem catN_all (ls : List (List (List LV))) : catN ls ls.length = ls.flatten := by unfold catN; rw [List.take_length]
theorem catN_le (ls : List (List (List LV))) (k : Nat) : (catN ls k).length ≤ ls.flatten.length := by
  have h : ls.flatten = (ls.take k).flatten ++ (ls.drop k).flatten := by rw [← List.flatten_append, List.take_append_drop]
  rw [h, List.length_append]; unfold catN; omega
abbrev shE (l : List (List LV)) : List LV := [.sl .sh l]

end Go.Proofs.Ytgkjhlmfgaaddaa.LF
end

section
/- Steps under a guard that is known. (Printed by gen_auto2.py.) -/
namespace Go.Proofs.Ytgkjhlmfgaaddaa.LF
open Go.RowKit
set_option linter.unusedVariables false

theorem LRl.valW {X : Nat → Nat → Prop} {G : Ctx} {M : Option Nat} {n : Nat} {ops : List Oper} {ord : List Nat} {Q : (Nat → TV) → LS → Prop} {l : List Oper} {p : Nat} {T : Nat → TV} {S : LS} {o : Oper} {r : TV} {d : Nat} (k : LRl X G M n ops ord Q l (p + 1) (upd T d r) S)
    (hg : wantedT ops.toArray T o = some true := by rfl) (hd : o.dst = some d := by rfl) (hn : Nat.blt d n = true := by rfl)
    (h : ∀ S', S.leX (X p) S' → LVal G o T S' r := by
      intro _ hS
      first
      | (guard_target = LVal _ ⟨_, (.move _), _, _, _, _⟩ _ _ _; first
          | exact LVal.move1 rfl rfl
          | exact LVal.move2 rfl rfl
          | exact LVal.move (.inl rfl))
      | (guard_target = LVal _ ⟨_, (.assign _), _, _, _, _⟩ _ _ _; first
          | exact LVal.assign1 rfl rfl
          | exact LVal.assign2 rfl rfl
          | exact LVal.move (.inr rfl))
      | (guard_target = LVal _ ⟨_, (.nilCheck _), _, _, _, _⟩ _ _ _; first
          | exact LVal.nilCheck rfl rfl
          | exact LVal.nilCheckP rfl rfl)
      | (guard_target = LVal _ ⟨_, (.fieldAddr _ _ _), _, _, _, _⟩ _ _ _; first
          | exact LVal.fieldAddr hD rfl rfl rfl rfl rfl rfl (by decide)
          | exact LVal.fieldAddrRo hD rfl rfl rfl rfl rfl rfl (by decide))
      | (guard_target = LVal _ ⟨_, (.load _ _), _, _, _, _⟩ _ _ _; first
          | exact LVal.load hD rfl rfl (hS.box _ _ (by first | assumption | exact box_new _ _ _ | exact box_set _ _ _ | (simp only [box_new, box_set, box_row, box_new_ne, box_set_ne, ne_eq, not_false_eq_true, *] <;> rfl)) (by first | exact id | assumption | (intro hx; rcases hx with hx | hx <;> omega) | (intro hx; have hx2 : _ = _ := hx; omega))) rfl rfl
          | exact LVal.loadRo hD rfl rfl rfl rfl)
      | (guard_target = LVal _ ⟨_, (.call _), _, _, _, _⟩ _ _ _; first
          | exact LVal.len hD rfl rfl rfl rfl
          | exact LVal.lenStr hD rfl rfl rfl rfl)
      | (guard_target = LVal _ ⟨_, (.binOp _ _ _ _ _), _, _, _, _⟩ _ _ _; first
          | exact LVal.add64 rfl rfl rfl (by omega)
          | exact LVal.sub64 rfl rfl rfl (by omega)
          | exact LVal.addU64 rfl rfl rfl (by omega)
          | exact LVal.subU64 rfl rfl rfl (by omega)
          | exact LVal.mulU64 rfl rfl rfl (by omega)
          | exact LVal.remI rfl rfl rfl (by omega)
          | exact LVal.quoU64 rfl rfl rfl (by omega)
          | exact LVal.quo64 rfl rfl rfl (by omega)
          | exact LVal.mul64 rfl rfl rfl (by omega)
          | exact LVal.neqSame hD rfl rfl rfl
          | exact LVal.neqSameB hD rfl rfl rfl rfl rfl
          | exact LVal.eqStr rfl rfl rfl
          | exact LVal.neqStr rfl rfl rfl
          | exact LVal.eqNilP hD rfl rfl rfl rfl
          | exact LVal.neqNilP hD rfl rfl rfl rfl
          | exact LVal.eqAgg hD rfl rfl rfl rfl rfl (by assumption) rfl
          | exact LVal.neqAgg hD rfl rfl rfl rfl rfl (by assumption) rfl
          | exact LVal.binOp hD rfl rfl rfl rfl)
      | (guard_target = LVal _ ⟨_, (.convert _ _ _), _, _, _, _⟩ _ _ _; first
          | exact LVal.conv64 hD rfl rfl rfl rfl rfl (by omega)
          | exact LVal.convU64 hD rfl rfl rfl rfl rfl (by omega)
          | exact LVal.convInt hD rfl rfl rfl rfl rfl)
      | (guard_target = LVal _ ⟨_, (.unOp _ _ _), _, _, _, _⟩ _ _ _; first | exact LVal.unOp rfl rfl rfl)
      | (guard_target = LVal _ ⟨_, (.pick _ _ _), _, _, _, _⟩ _ _ _; first
          | exact LVal.pickOr rfl rfl rfl (by first | rfl | assumption | exact andL (by assumption)) (by intro hb; first | rfl | exact beqF hb | exact andI (by assumption) (beqF hb))
          | exact LVal.pickAnd rfl rfl rfl (by first | rfl | assumption | exact andL (by assumption)) (by intro hb; first | rfl | exact beqT hb | exact andI (by assumption) (beqT hb))
          | exact LVal.pick rfl rfl)
      | (guard_target = LVal _ ⟨_, (.extract _ _), _, _, _, _⟩ _ _ _; first | exact LVal.extract rfl rfl rfl)
      | (guard_target = LVal _ ⟨_, (.indexAddr _ _ _), _, _, _, _⟩ _ _ _; first
          | exact LVal.indexE hD rfl rfl rfl rfl rfl rfl (by first | assumption | omega | (simp at hw; omega)) rfl rfl
          | exact LVal.indexG hD rfl rfl rfl rfl rfl rfl rfl (by first | assumption | omega | (simp at hw; omega)) rfl
          | exact LVal.indexC hD rfl rfl rfl rfl rfl rfl (by decide) rfl rfl rfl)
      | (guard_target = LVal _ ⟨_, (.field _ _ _), _, _, _, _⟩ _ _ _; first | exact LVal.field hD rfl rfl rfl rfl rfl rfl rfl)
      | (guard_target = LVal _ ⟨_, (.buildSlice _ _ _), _, _, _, _⟩ _ _ _; first | exact LVal.buildSlice1 hD rfl rfl rfl rfl rfl rfl rfl rfl rfl rfl)
      | (guard_target = LVal _ ⟨_, (.build _ _), _, _, _, _⟩ _ _ _; first | exact LVal.build hD rfl rfl rfl rfl rfl rfl rfl)
      | (guard_target = LVal _ ⟨_, (.slice _ _ _ _ _), _, _, _, _⟩ _ _ _; first
          | exact LVal.takeMap hD rfl rfl rfl rfl rfl rfl (by first | assumption | omega | (simp at hw; omega)) rfl (fun _ _ => rfl)
          | exact LVal.dropMap hD rfl rfl rfl rfl rfl rfl (by first | assumption | omega | (simp at hw; omega)) rfl (fun _ _ => rfl)
          | exact LVal.cutMap hD rfl rfl rfl rfl rfl rfl rfl (by first | assumption | omega | (simp at hw; omega)) (by first | assumption | omega | (simp at hw; omega)) rfl (fun _ _ => rfl))) : LRl X G M n ops ord Q (o :: l) p T S := .val h hg hd hn k

theorem LOps.valW {G : Ctx} {M : Option Nat} {n : Nat} {ops : Array Oper} {o : Oper} {l : List Oper} {Q : (Nat → TV) → LS → Prop} {T : Nat → TV} {S : LS} {r : TV} {d : Nat} (k : LOps G M n ops l Q (upd T d r) S)
    (hg : wantedT ops T o = some true := by rfl) (hd : o.dst = some d := by rfl) (hn : Nat.blt d n = true := by rfl)
    (h : LVal G o T S r := by
      first
      | (guard_target = LVal _ ⟨_, (.move _), _, _, _, _⟩ _ _ _; first
          | exact LVal.move1 rfl rfl
          | exact LVal.move2 rfl rfl
          | exact LVal.move (.inl rfl))
      | (guard_target = LVal _ ⟨_, (.assign _), _, _, _, _⟩ _ _ _; first
          | exact LVal.assign1 rfl rfl
          | exact LVal.assign2 rfl rfl
          | exact LVal.move (.inr rfl))
      | (guard_target = LVal _ ⟨_, (.nilCheck _), _, _, _, _⟩ _ _ _; first
          | exact LVal.nilCheck rfl rfl
          | exact LVal.nilCheckP rfl rfl)
      | (guard_target = LVal _ ⟨_, (.fieldAddr _ _ _), _, _, _, _⟩ _ _ _; first
          | exact LVal.fieldAddr hD rfl rfl rfl rfl rfl rfl (by decide)
          | exact LVal.fieldAddrRo hD rfl rfl rfl rfl rfl rfl (by decide))
      | (guard_target = LVal _ ⟨_, (.load _ _), _, _, _, _⟩ _ _ _; first
          | exact LVal.load hD rfl rfl (by first | assumption | exact box_new _ _ _ | exact box_set _ _ _ | (simp only [box_new, box_set, box_row, box_new_ne, box_set_ne, ne_eq, not_false_eq_true, *] <;> rfl)) rfl rfl
          | exact LVal.loadRo hD rfl rfl rfl rfl)
      | (guard_target = LVal _ ⟨_, (.call _), _, _, _, _⟩ _ _ _; first
          | exact LVal.len hD rfl rfl rfl rfl
          | exact LVal.lenStr hD rfl rfl rfl rfl)
      | (guard_target = LVal _ ⟨_, (.binOp _ _ _ _ _), _, _, _, _⟩ _ _ _; first
          | exact LVal.add64 rfl rfl rfl (by omega)
          | exact LVal.sub64 rfl rfl rfl (by omega)
          | exact LVal.addU64 rfl rfl rfl (by omega)
          | exact LVal.subU64 rfl rfl rfl (by omega)
          | exact LVal.mulU64 rfl rfl rfl (by omega)
          | exact LVal.remI rfl rfl rfl (by omega)
          | exact LVal.quoU64 rfl rfl rfl (by omega)
          | exact LVal.quo64 rfl rfl rfl (by omega)
          | exact LVal.mul64 rfl rfl rfl (by omega)
          | exact LVal.neqSame hD rfl rfl rfl
          | exact LVal.neqSameB hD rfl rfl rfl rfl rfl
          | exact LVal.eqStr rfl rfl rfl
          | exact LVal.neqStr rfl rfl rfl
          | exact LVal.eqNilP hD rfl rfl rfl rfl
          | exact LVal.neqNilP hD rfl rfl rfl rfl
          | exact LVal.eqAgg hD rfl rfl rfl rfl rfl (by assumption) rfl
          | exact LVal.neqAgg hD rfl rfl rfl rfl rfl (by assumption) rfl
          | exact LVal.binOp hD rfl rfl rfl rfl)
      | (guard_target = LVal _ ⟨_, (.convert _ _ _), _, _, _, _⟩ _ _ _; first
          | exact LVal.conv64 hD rfl rfl rfl rfl rfl (by omega)
          | exact LVal.convU64 hD rfl rfl rfl rfl rfl (by omega)
          | exact LVal.convInt hD rfl rfl rfl rfl rfl)
      | (guard_target = LVal _ ⟨_, (.unOp _ _ _), _, _, _, _⟩ _ _ _; first | exact LVal.unOp rfl rfl rfl)
      | (guard_target = LVal _ ⟨_, (.pick _ _ _), _, _, _, _⟩ _ _ _; first
          | exact LVal.pickOr rfl rfl rfl (by first | rfl | assumption | exact andL (by assumption)) (by intro hb; first | rfl | exact beqF hb | exact andI (by assumption) (beqF hb))
          | exact LVal.pickAnd rfl rfl rfl (by first | rfl | assumption | exact andL (by assumption)) (by intro hb; first | rfl | exact beqT hb | exact andI (by assumption) (beqT hb))
          | exact LVal.pick rfl rfl)
      | (guard_target = LVal _ ⟨_, (.extract _ _), _, _, _, _⟩ _ _ _; first | exact LVal.extract rfl rfl rfl)
      | (guard_target = LVal _ ⟨_, (.indexAddr _ _ _), _, _, _, _⟩ _ _ _; first
          | exact LVal.indexE hD rfl rfl rfl rfl rfl rfl (by first | assumption | omega | (simp at hw; omega)) rfl rfl
          | exact LVal.indexG hD rfl rfl rfl rfl rfl rfl rfl (by first | assumption | omega | (simp at hw; omega)) rfl
          | exact LVal.indexC hD rfl rfl rfl rfl rfl rfl (by decide) rfl rfl rfl)
      | (guard_target = LVal _ ⟨_, (.field _ _ _), _, _, _, _⟩ _ _ _; first | exact LVal.field hD rfl rfl rfl rfl rfl rfl rfl)
      | (guard_target = LVal _ ⟨_, (.buildSlice _ _ _), _, _, _, _⟩ _ _ _; first | exact LVal.buildSlice1 hD rfl rfl rfl rfl rfl rfl rfl rfl rfl rfl)
      | (guard_target = LVal _ ⟨_, (.build _ _), _, _, _, _⟩ _ _ _; first | exact LVal.build hD rfl rfl rfl rfl rfl rfl rfl)
      | (guard_target = LVal _ ⟨_, (.slice _ _ _ _ _), _, _, _, _⟩ _ _ _; first
          | exact LVal.takeMap hD rfl rfl rfl rfl rfl rfl (by first | assumption | omega | (simp at hw; omega)) rfl (fun _ _ => rfl)
          | exact LVal.dropMap hD rfl rfl rfl rfl rfl rfl (by first | assumption | omega | (simp at hw; omega)) rfl (fun _ _ => rfl)
          | exact LVal.cutMap hD rfl rfl rfl rfl rfl rfl rfl (by first | assumption | omega | (simp at hw; omega)) (by first | assumption | omega | (simp at hw; omega)) rfl (fun _ _ => rfl))) : LOps G M n ops (o :: l) Q T S := .do (LVal.do (R := fun r' S' => r' = r ∧ S' = S) h ⟨rfl, rfl⟩) hg hd hn (by rintro _ _ ⟨rfl, rfl⟩; exact k)

theorem LOps.valH {G : Ctx} {M : Option Nat} {n : Nat} {ops : Array Oper} {o : Oper} {l : List Oper} {Q : (Nat → TV) → LS → Prop} {T : Nat → TV} {S : LS} {r : TV} {d : Nat} (h : LVal G o T S r) (k : LOps G M n ops l Q (upd T d r) S)
    (hg : wantedT ops T o = some true := by rfl) (hd : o.dst = some d := by rfl) (hn : Nat.blt d n = true := by rfl) : LOps G M n ops (o :: l) Q T S := .do (LVal.do (R := fun r' S' => r' = r ∧ S' = S) h ⟨rfl, rfl⟩) hg hd hn (by rintro _ _ ⟨rfl, rfl⟩; exact k)

theorem LRl.valH {X : Nat → Nat → Prop} {G : Ctx} {M : Option Nat} {n : Nat} {ops : List Oper} {ord : List Nat} {Q : (Nat → TV) → LS → Prop} {l : List Oper} {p : Nat} {T : Nat → TV} {S : LS} {o : Oper} {r : TV} {d : Nat} (h : LVal G o T S r) (k : LRl X G M n ops ord Q l (p + 1) (upd T d r) S)
    (h0 : ∀ S', S.leX (X p) S' → LVal G o T S' r)
    (hg : wantedT ops.toArray T o = some true := by rfl) (hd : o.dst = some d := by rfl) (hn : Nat.blt d n = true := by rfl) : LRl X G M n ops ord Q (o :: l) p T S := .val h0 hg hd hn k

end Go.Proofs.Ytgkjhlmfgaaddaa.LF
end

section
/- A call of yield in a region whose order is drawn. -/
namespace Go.Proofs.Ytgkjhlmfgaaddaa.LF
open Go.RowKit

theorem LAct.yield {G : Ctx} {o : Oper} {T : Nat → TV} {S : LS} {f : Operand} {xs : List Operand} {ts : Array TypeId} {l : Nat} {args : List TV} {R : Bool → LS → Prop}
    (ho : o.op = .call { callee := .value f, args := xs.toArray, argTypes := ts }) (hf : lev T f = .one (.v (.func (.yield l) #[] #[]))) (hx : xs.map (fun x => shTV (lev T x)) = args)
    (h : LYield G l args R S) : LAct G none o T S fun r S' => ∃ b, r = .one (.v (.bool b)) ∧ R b S' := by
  intro K w a N Q hi hr hn
  have h1 := hr f (by rw [ho]; simp [Op.operands, Call.operands])
  rw [hf] at h1
  have ha : ArgsRel G w K args (xs.map a.eval).toArray := by
    subst hx
    refine ⟨by simp, fun i x v hx' hv => ?_⟩
    rw [List.getElem?_map] at hx'
    rw [List.getElem?_toArray, List.getElem?_map] at hv
    cases hq : xs[i]? with
    | none => rw [hq] at hx'; simp at hx'
    | some y =>
      rw [hq] at hx' hv
      simp only [Option.map_some, Option.some.injEq] at hx' hv
      subst hx'; subst hv
      exact (hr y (by rw [ho]; simp [Op.operands, Call.operands, List.mem_of_getElem? hq])).shTV
  obtain ⟨fn, tmps, assign, body, e1, e2⟩ := h K w _ hi ha
  refine ⟨fun f _ => trivial, ?_⟩
  have hrun : (o.semAt (fen none).round a.eval).run G.P w = .ok (.round l fn tmps assign body) w := by
    show (execOp a.eval o).run G.P w = _
    have := h1.flat
    simp [execOp, ho, resolve, this, Deferred.ofValue, invoke, e1]
  rw [hrun]
  refine ⟨fun hd => by simp [fen, Fence.wide] at hd, e2.mono fun e w' hp => ?_⟩
  obtain ⟨r, S', K', rfl, j1, j2, j3⟩ := hp
  exact hn (.one (.v (.bool r))) (.bool r) S' K' w' (.raw rfl) j1 j2 ⟨r, rfl, j3⟩

theorem LRl.yield {X : Nat → Nat → Prop} {G : Ctx} {n : Nat} {ops : List Oper} {ord : List Nat} {Q : (Nat → TV) → LS → Prop} {os : List Oper} {p : Nat} {T : Nat → TV} {S : LS} {o : Oper} {f : Operand} {xs : List Operand} {ts : Array TypeId} {l : Nat} {args : List TV} {R : Bool → LS → Prop} {d : Nat}
    (ho : o.op = .call { callee := .value f, args := xs.toArray, argTypes := ts }) (hf : lev T f = .one (.v (.func (.yield l) #[] #[]))) (hx : xs.map (fun x => shTV (lev T x)) = args) (ha : laterAll ops ord p = true) (hg : wantedT ops.toArray T o = some true) (hd : o.dst = some d) (hn : Nat.blt d n = true)
    (h : LYield G l args R S) (hm : ∀ b S', R b S' → S.leX (X p) S' ∨ earlierAll ops ord p = true) (k : ∀ b S', R b S' → LRl X G none n ops ord Q os (p + 1) (upd T d (.one (.v (.bool b)))) S') (hxx : ∀ q, X q = X p := by intro _; rfl) : LRl X G none n ops ord Q (o :: os) p T S :=
  .actA (.yield ho hf hx h) ha hg hd hn (by rintro _ _ ⟨b, rfl, hr⟩; exact hmOld hxx (hm b _ hr)) (by rintro _ _ ⟨b, rfl, hr⟩; exact k b _ hr)
end Go.Proofs.Ytgkjhlmfgaaddaa.LF
end

section
/- An array's element in a box. -/
namespace Go.Proofs.Ytgkjhlmfgaaddaa.LF
open Go.RowKit

theorem LVal.indexP {G : Ctx} {D : Tab} (hD : TabOK G.P D) {o : Oper} {T : Nat → TV} {S : LS} {t e : TypeId} {x ix : Operand} {b off m n : Nat} {k : IntKind} {i j : TI} (ho : o.op = .indexAddr t x ix)
    (hx : lev T x = .one (.v (.pointer (some ⟨b, off, none⟩)))) (hix : lev T ix = .one (.v (.int k (m : Int)))) (hi : D.get t = some i) (hd : i.desc = .array n e) (hj : D.get e = some j) (hm : m < n) :
    LVal G o T S (.one (.v (.pointer (some ⟨b, off + m * j.size, none⟩)))) :=
  .of_run fun K w ac hi' hr => by
    have h1 := hr x (by rw [ho]; simp [Op.operands])
    have h2 := hr ix (by rw [ho]; simp [Op.operands])
    rw [hx] at h1
    rw [hix] at h2
    have e1 := (hD.get hi).und
    rw [hd] at e1
    have hb : (0 : Int) ≤ (m : Int) ∧ (m : Int) < (n : Int) := ⟨by omega, by omega⟩
    refine ⟨_, ?_, .raw rfl⟩
    simp only [execOp, ho, h1.flat, h2.flat, Instr.indexAt, Sem.run_bind, asIntOf, Instr.sureAddr, asAddr, Sem.run_pure, Result.andThen_ok, run_underlying e1, hb, and_self, if_true, run_sizeOf' (hD.get hj), add_off, Int.toNat_natCast]

theorem readT_agg {i : TI} {l r : List LV} (ha : i.isAgg = true) (hs : i.size ≤ l.length) (hr : l.take i.size = r) : readT i l = some (.agg r) := by
  unfold readT
  rw [ha, cond_true, Nat.ble_eq_true_of_le hs, cond_true, hr]
end Go.Proofs.Ytgkjhlmfgaaddaa.LF
end

section
/- A row that is made; a number shifted left. -/
namespace Go.Proofs.Ytgkjhlmfgaaddaa.LF
open Go.RowKit Go.Deep

theorem LDo.makeBytes {G : Ctx} {D : Tab} (hD : TabOK G.P D) {o : Oper} {T : Nat → TV} {S : LS} {t e : TypeId} {x y : Operand} {n : Nat} {kl kc : IntKind} {z : Value} {i : TI} (ho : o.op = .makeSlice t x y)
    (hx : lev T x = .one (.v (.int kl (n : Int)))) (hy : lev T y = .one (.v (.int kc (n : Int)))) (hi : D.get t = some i) (hd : i.desc = .slice e) (hinfo : (G.P.info? e).map (fun i => (i.zero, i.size, i.bytes)) = some (some z, 1, 1)) (hz1 : z.cells = #[z]) (hz2 : z.oneCell' = true) (hz3 : constLV z = .v z) (hn : n ≤ 1000000) :
    LDo G o T S (fun r S' => ∃ b, S.fresh b ∧ r = .one (rsl b 0 n n) ∧ S' = S.newBox b (List.replicate n (.v z))) :=
  .of_run fun K w a hi' hr => by
    have h1 := hr x (by rw [ho]; simp [Op.operands])
    have h2 := hr y (by rw [ho]; simp [Op.operands])
    rw [hx] at h1
    rw [hy] at h2
    have e1 := (hD.get hi).und
    rw [hd] at e1
    have hmk := run_make_row' (P := G.P) t e z 1 e1 hinfo hz1 kl kc n (by omega) (by omega) w
    have hrun : (execOp a.eval o).run G.P w = .ok (.value (.slice (some ⟨w.heap.size, 0, none⟩) n n)) (w.alloc (.cells (madeCells #[z] n) e)) := by
      simp only [execOp, ho, h1.flat, h2.flat, Sem.run_bind, hmk, Result.andThen_ok, Sem.run_pure]
    have hcells : (madeCells #[z] n).toList = List.replicate n z := by
      rw [toList_madeCells_one]
    have hsz : (madeCells #[z] n).size = n := by rw [← Array.length_toList, hcells, List.length_replicate]
    refine ⟨_, _, S.newBox w.heap.size (List.replicate n (.v z)), K, _, hrun, .raw rfl, hi'.newBox _ _ _ (by rw [hsz, List.length_replicate]) (fun q u v hu hv => ?_), .alloc hi' _, w.heap.size, hi'.fresh, rfl, rfl⟩
    rw [← Array.getElem?_toList, hcells] at hv
    have e2 : u = .v z := List.eq_of_mem_replicate (List.mem_of_getElem? hu)
    have e3 : v = z := List.eq_of_mem_replicate (List.mem_of_getElem? hv)
    subst e2; subst e3
    exact .raw _ hz2

theorem LVal.shlU {G : Ctx} {o : Oper} {T : Nat → TV} {S : LS} {t u : TypeId} {x y : Operand} {k' : IntKind} {m c : Nat} {b : Int} (ho : o.op = .binOp .shl t x y u)
    (hx : lev T x = .one (.v (.int .u64 (m : Int)))) (hy : lev T y = .one (.v (.int k' b))) (hb : b = (c : Int)) (hc : c ≤ 64) : LVal G o T S (.one (.v (.int .u64 (((m * 2 ^ c) % 18446744073709551616 : Nat) : Int)))) :=
  .of_run fun K w ac hi hr => by
    subst hb
    have h1 := hr x (by rw [ho]; simp [Op.operands])
    have h2 := hr y (by rw [ho]; simp [Op.operands])
    rw [hx] at h1
    rw [hy] at h2
    refine ⟨.int .u64 (((m * 2 ^ c) % 18446744073709551616 : Nat) : Int), ?_, .raw rfl⟩
    have e1 : Min.min c IntKind.u64.bits = c := Nat.min_eq_left hc
    have e2 : (m : Int) * 2 ^ c = ((m * 2 ^ c : Nat) : Int) := by push_cast; rfl
    have e3 : IntKind.u64.wrap ((m * 2 ^ c : Nat) : Int) = (((m * 2 ^ c) % 18446744073709551616 : Nat) : Int) := by rw [IntKind.wrap_u64]; omega
    have key : (Go.binOp .shl t (.int .u64 (m : Int)) (.int k' (c : Int))).run G.P w = .ok (.int .u64 (((m * 2 ^ c) % 18446744073709551616 : Nat) : Int)) w := by
      simp only [Go.binOp, Op.shift]
      rw [if_neg (by omega)]
      simp only [Int.toNat_natCast, e1, e2, e3, Sem.run_pure]
    simp only [execOp, ho, h1.flat, h2.flat, Sem.run_bind, eqGuard_flat (by simp : ∀ xs, Value.int .u64 (m : Int) ≠ .agg xs) (by simp), Result.andThen_ok, key, Sem.run_pure]
end Go.Proofs.Ytgkjhlmfgaaddaa.LF
end

section
/- The frame's rule for a range over a function, the memory's other objects kept. -/
namespace Go.Proofs.Ytgkjhlmfgaaddaa.LF
open Go.RowKit

/-- From one logical memory to the next, but for a loop's record. -/
structure LS.leO (S : LS) (l : Nat) (S' : LS) : Prop where
  box : ∀ b cs, S.box b = some cs → S'.box b = some cs
  row : ∀ b x, S.row b = some x → S'.row b = some x
  obj : ∀ b o, b ≠ l → S.obj b = some o → S'.obj b = some o
  top : S.top ≤ S'.top
theorem LS.leO.of_le {S S' : LS} {l : Nat} (h : S.le S') : S.leO l S' := ⟨h.box, h.row, fun b o _ e => h.obj b o e, h.top⟩
theorem LS.leO.setObj (S : LS) (l : Nat) (o : Obj) : S.leO l (S.setObj l o) := by
  refine ⟨fun _ _ h => h, fun _ _ h => h, fun b o2 hb e => ?_, Nat.le_max_left _ _⟩
  simp only [LS.setObj]
  rcases beq_cases b l (some o) (S.obj b) with ⟨h, _⟩ | ⟨_, h⟩
  · exact absurd h hb
  · rw [h]; exact e
theorem LS.le.objNone {S0 S : LS} {l : Nat} (h : S0.le S) (hl : S.obj l = Option.none) : S0.obj l = Option.none := by
  cases hq : S0.obj l with
  | none => rfl
  | some o => rw [h.obj _ _ hq] at hl; cases hl
/-- What was there before the loop stays. -/
theorem LS.le.leO {S0 S S' : LS} {l : Nat} (hl : S0.obj l = Option.none) (h : S0.le S) (k : S.leO l S') : S0.le S' :=
  ⟨fun b c e => k.box b c (h.box b c e), fun b c e => k.row b c (h.row b c e), fun b o e => k.obj b o (fun e2 => by subst e2; rw [hl] at e; cases e) (h.obj b o e), Nat.le_trans h.top k.top⟩

theorem LWp.rangeFuncK {G : Ctx} {n : Nat} {g : Operand} {ps : List Tmp} {assign body : Code} {Q : Exit → (Nat → TV) → LS → Prop} {T : Nat → TV} {S : LS} {gf : FuncId} {fn : Func} {c : Code} {lb : Array Value} {xs : List (List TV)} {C : LS → Prop}
    (hg : lev T g = .one (.v (.func (.func gf) #[] lb))) (hf : G.P.funcs[gf]? = some fn) (hname : (fn.name == "runtime.NumGoroutine") = false) (hb : fn.body = some c) (hlb : lb.toList.all (fun v => v.oneCell') = true)
    (hps : ps.all (fun p => Nat.blt p n) = true) (hlen : ∀ x ∈ xs, x.length = ps.length) (it : ∀ G' : Ctx, G'.P = G.P → LIter G' gf lb C xs)
    (I : Nat → LS → Prop) (Ix : Code → Nat → LS → Prop) (hI : ∀ l, S.obj l = Option.none → ∀ k S1 S2, I k S1 → S1.leO l S2 → I k S2) (hIx : ∀ l, S.obj l = Option.none → ∀ c k S1 S2, Ix c k S1 → S1.leO l S2 → Ix c k S2) (hC : ∀ k S, I k S → C S) (h0 : I 0 S)
    (round : ∀ l k x S2 o, S.obj l = Option.none → xs[k]? = some x → I k S2 → S2.obj l = some o → LWp G (some l) n assign (fun e T1 S3 => e = .normal ∧ S3.obj l = some o ∧ ∀ o', LWp G (some l) n body (RoundPost l o' (I (k + 1)) fun c => Ix c (k + 1)) T1 (S3.setObj l o')) (setPs T ps x) S2)
    (done : ∀ S', I xs.length S' → Q .normal T S') (stop : ∀ c k S', k ≤ xs.length → Ix c k S' → LWp G none n c Q T S') :
    LWp G none n (.rangeFunc g ps.toArray assign body) Q T S := by
  intro m K w a hi hr hm
  have hl : S.obj (w.heap.size + 1) = Option.none := by
    cases hq : S.obj (w.heap.size + 1) with
    | none => rfl
    | some o => have := (hi.obj _ _ hq).2.1; have := hi.top; omega
  have hI := hI _ hl
  have hIx := hIx _ hl
  refine wpIn_rangeFunc (F := Fence.wide) ?_
  intro fn0 hfn
  obtain ⟨rec, hrec⟩ : ∃ rec : LoopState → Option Code → Loop, rec = fun st pe => { state := st, pending := pe, fn := fn0, tmps := a.tmps, params := ps.toArray, assign, body, defers := w.heap.size } := ⟨_, rfl⟩
  obtain ⟨W1, hW1⟩ : ∃ W1, (w.alloc (.deferred (some []))).alloc (.loop (rec .ready Option.none)) = W1 := ⟨_, rfl⟩
  have hx1 : Ext K w K W1 := by rw [← hW1]; exact (Ext.alloc hi _).trans (Ext.alloc (hi.alloc _) _)
  have hi1 : Inv G (S.setObj (w.heap.size + 1) (.loop (rec .ready Option.none))) K W1 := by
    have := (hi.alloc (.deferred (some []))).newObj (.loop (rec .ready Option.none)) rfl (by simp)
    rw [World.size_alloc] at this
    rw [← hW1]; exact this
  have hmark1 : W1.heap[w.heap.size]? = some (.deferred (some [])) := by
    rw [← hW1]; exact (Below.heap_alloc _ _ _ (by simp)).trans (World.alloc_heap_new w _)
  let G' : Ctx := { G with since := fun K' w' => G.since K' w' ∧ Ext K W1 K' w', stable := fun K1 w1 K2 w2 h hx => ⟨G.stable _ _ _ _ h.1 hx, h.2.trans hx⟩ }
  have to' : ∀ {S K' w'}, Inv G S K' w' → Ext K W1 K' w' → Inv G' S K' w' := fun h hx => Inv.ctx (G := G) (G' := G') rfl rfl rfl h ⟨h.since, hx⟩
  have from' : ∀ {S K' w'}, Inv G' S K' w' → Inv G S K' w' := fun h => Inv.ctx (G := G') (G' := G) rfl rfl rfl h h.since.1
  have hgv : a.eval g = .func (.func gf) #[] lb := by
    have := hr.eval g
    rw [hg] at this
    exact this.flat
  have eg : ∀ args w, (callFunc gf args).run G.P w = .ok (.enter gf args) w := fun args w => by
    have hn : fn.name ≠ "runtime.NumGoroutine" := fun e => by rw [e] at hname; simp at hname
    simp [callFunc, hf, hn, hb]
  refine ⟨w.heap.size + 1, [{ target := .collected w.heap.size, args := #[] }], W1, { target := .fn (.func gf) lb, args := #[.func (.yield (w.heap.size + 1)) #[] #[]] }, W1, gf,
    #[.func (.yield (w.heap.size + 1)) #[] #[]] ++ lb, W1, ?_, ?_, fun _ _ => trivial, ?_, fun hd => by simp [Fence.wide] at hd, ?_⟩
  · rw [← hW1, hrec]; exact run_enterLoop_outer _ _ _ _ _
  · simp only [resolve, hgv]
    simp [go_sem]
  · simp [invoke, go_sem, eg]
  have hcall := it G' rfl (w.heap.size + 1) (fun k S => I k S ∧ S.obj (w.heap.size + 1) = some (.loop (rec .ready Option.none)))
    (fun k S => ∃ c, Ix c k S ∧ S.obj (w.heap.size + 1) = some (.loop (rec .done (some c)))) (S.setObj (w.heap.size + 1) (.loop (rec .ready Option.none)))
    (fun k S S' h hle => ⟨hI k S S' h.1 (.of_le hle), hle.obj _ _ h.2⟩) (fun k S S' ⟨c, h, h'⟩ hle => ⟨c, hIx c k S S' h (.of_le hle), hle.obj _ _ h'⟩) (fun k S h => hC k S h.1) ?_
    ⟨hI 0 _ _ h0 (.setObj _ _ _), setObj_obj _ _ _⟩ K W1 (#[.func (.yield (w.heap.size + 1)) #[] #[]] ++ lb) (to' hi1 (.refl _ _)) ?_
  · refine callsIn_wide.2 (hcall.mono fun e W2 hp => ?_)
    obtain ⟨r, v, S2, K2, rfl, h2, h3, h4, h5⟩ := hp
    have hi2 := from' h3
    have hxw : Ext K w K2 W2 := hx1.trans h4
    have fin : ∀ (st : LoopState) (pe : Option Code), S2.obj (w.heap.size + 1) = some (.loop (rec st pe)) → st ≠ .busy →
        (Instr.endLoop (w.heap.size + 1)).run G.P W2 = .ok pe (W2.putObj (w.heap.size + 1) (.loop (rec .exhausted pe))) ∧
        Inv G (S2.setObj (w.heap.size + 1) (.loop (rec .exhausted pe))) K2 (W2.putObj (w.heap.size + 1) (.loop (rec .exhausted pe))) ∧
        RelT G (W2.putObj (w.heap.size + 1) (.loop (rec .exhausted pe))) K2 n T { a with defers := [{ target := .collected w.heap.size, args := #[] }] ++ a.defers } ∧
        Marks m (W2.putObj (w.heap.size + 1) (.loop (rec .exhausted pe))) ([{ target := .collected w.heap.size, args := #[] }] ++ a.defers) ∧
        Ext K w K2 (W2.putObj (w.heap.size + 1) (.loop (rec .exhausted pe))) := by
      intro st pe ho hst
      obtain ⟨o1, o2, o3, o4, o5⟩ := hi2.obj _ _ ho
      have hend : (Instr.endLoop (w.heap.size + 1)).run G.P W2 = .ok pe (W2.putObj (w.heap.size + 1) (.loop (rec .exhausted pe))) := by
        have := run_endLoop (P := G.P) o3 (by rw [hrec]; exact hst)
        rw [hrec] at this ⊢
        exact this
      obtain ⟨p1, p2⟩ := hi2.putObj (o := .loop (rec st pe)) (o' := .loop (rec .exhausted pe)) o1 (Array.getElem?_eq_some_iff.1 o3).1 o3 rfl rfl (by simp) (by simp)
      have hxx := hxw.trans p2
      refine ⟨hend, p1, ⟨hr.1, fun i => (hr.2 i).mono hxx⟩, ?_, hxx⟩
      obtain ⟨m0, Ds, m1, m2, m3⟩ := hm
      refine ⟨Nat.le_trans m0 hxx.size, w.heap.size :: Ds, by rw [m1]; rfl, List.nodup_cons.2 ⟨fun hin => ?_, m2⟩, fun D hD => ?_⟩
      · have := (Array.getElem?_eq_some_iff.1 (m3 _ hin).2).1
        omega
      · rcases List.mem_cons.1 hD with rfl | hD
        · exact ⟨m0, (h4.trans p2).marks _ hmark1⟩
        · exact ⟨(m3 D hD).1, hxx.marks D (m3 D hD).2⟩
    rcases h5 with ⟨h5, h6⟩ | ⟨k, hk, c, h5, h6⟩
    · obtain ⟨f1, f2, f3, f4, f5⟩ := fin _ _ h6 (by simp)
      exact ⟨Option.none, _, f1, T, _, K2, f2, f3, f4, f5, done _ (hI _ _ _ h5 (.setObj _ _ _))⟩
    · obtain ⟨f1, f2, f3, f4, f5⟩ := fin _ _ h6 (by simp)
      exact ⟨some c, _, f1, wpIn_mono (stop c k _ hk (hIx _ _ _ _ h5 (.setObj _ _ _)) m K2 _ _ f2 f3 f4) fun e a' w' hp => hp.trans f5⟩
  · -- one round
    rintro k x S2 hxk ⟨hk1, hk2⟩ K2 w2 vals hi2' ha
    have hi2 := from' hi2'
    have hx2 : Ext K W1 K2 w2 := hi2'.since.2
    obtain ⟨o1, o2, o3, o4, o5⟩ := hi2.obj _ _ hk2
    have hsize : vals.size = ps.length := by rw [ha.1]; exact hlen x (List.mem_of_getElem? hxk)
    have hy := run_yield (P := G.P) (args := vals) o3 (by rw [hrec]; simpa using hsize)
    rw [hrec] at hy
    refine ⟨fn0, _, assign, body, hy, roundIn_of_wpIn trivial ?_⟩
    have hrel : RelT G w2 K2 n (setPs T ps x) { tmps := (ps.toArray.zip vals).foldl (fun t (p, v) => t.setIfInBounds p v) a.tmps, defers := [] } := by
      have := RelT.setPs (G := G) (w := w2) (K := K2) (n := n) ps x vals.toList T a.tmps [] hps (by simpa using ha.1) (fun i y v hy hv => RepT.ctx (G := G') (G' := G) rfl (ha.2 i y v hy (by simpa using hv))) ⟨hr.1, fun i => (hr.2 i).mono (hx1.trans hx2)⟩
      have e : (ps.toArray.zip vals).foldl (fun t (p, v) => t.setIfInBounds p v) a.tmps = (ps.zip vals.toList).foldl (fun t (p, v) => t.setIfInBounds p v) a.tmps := by
        rw [← Array.foldl_toList]; simp
      rw [e]; exact this
    refine wpIn_mono (round (w.heap.size + 1) k x S2 _ hl hxk hk1 hk2 w2.heap.size K2 w2 _ hi2 hrel (Marks.nil _)) fun e a3 w3 hp => ?_
    obtain ⟨T3, S3, K3, i1, i2, i3, i4, rfl, i5, i6⟩ := hp
    obtain ⟨q1, q2, q3, q4, q5⟩ := i1.obj _ _ i5
    obtain ⟨p1, p2⟩ := i1.putObj (o := .loop (rec .ready Option.none)) (o' := .loop (rec .busy Option.none)) q1 (Array.getElem?_eq_some_iff.1 q3).1 q3 rfl rfl (by simp) (by simp)
    have hbegin : (Instr.beginRound (w.heap.size + 1)).run G.P w3 = .ok () (w3.putObj (w.heap.size + 1) (.loop (rec .busy Option.none))) := by
      have := run_beginRound (P := G.P) q3 (by rw [hrec])
      rw [hrec] at this ⊢
      exact this
    refine ⟨_, hbegin, ?_⟩
    refine wpIn_mono (i6 _ _ K3 _ a3 p1 (i2.mono p2) (i3.mono p2)) fun e a4 w4 hp => ?_
    obtain ⟨T4, S4, K4, j1, j2, j3, j4, j5⟩ := hp
    have fin : ∀ (jump : Option Code), S4.obj (w.heap.size + 1) = some (.loop (rec .busy Option.none)) →
        (Instr.endRound (w.heap.size + 1) jump).run G.P w4 = .ok (.bool jump.isNone) (w4.putObj (w.heap.size + 1) (.loop (rec (if jump.isNone then .ready else .done) jump))) ∧
        Inv G' (S4.setObj (w.heap.size + 1) (.loop (rec (if jump.isNone then .ready else .done) jump))) K4 (w4.putObj (w.heap.size + 1) (.loop (rec (if jump.isNone then .ready else .done) jump))) ∧
        Ext K2 w2 K4 (w4.putObj (w.heap.size + 1) (.loop (rec (if jump.isNone then .ready else .done) jump))) := by
      intro jump ho
      obtain ⟨r1, r2, r3, r4, r5⟩ := j1.obj _ _ ho
      obtain ⟨s1, s2⟩ := j1.putObj (o := .loop (rec .busy Option.none)) (o' := .loop (rec (if jump.isNone then .ready else .done) jump)) r1 (Array.getElem?_eq_some_iff.1 r3).1 r3 rfl rfl (by simp) (by simp)
      have := run_endRound (P := G.P) jump r3
      rw [hrec] at this ⊢
      rw [hrec] at s1 s2
      have hxx := ((i4.trans p2).trans j4).trans s2
      exact ⟨this, to' s1 (hx2.trans hxx), hxx⟩
    cases e with
    | normal =>
      obtain ⟨f1, f2, f3⟩ := fin Option.none j5.1
      exact ⟨_, _, f1, _, _, K4, rfl, f2, f3, .inl ⟨rfl, hI _ _ _ j5.2 (.setObj _ _ _), setObj_obj _ _ _⟩⟩
    | ret =>
      obtain ⟨f1, f2, f3⟩ := fin (some .ret) j5.1
      exact ⟨_, _, f1, _, _, K4, rfl, f2, f3, .inr ⟨rfl, .ret, hIx _ _ _ _ j5.2 (.setObj _ _ _), setObj_obj _ _ _⟩⟩
    | exit id =>
      obtain ⟨f1, f2, f3⟩ := fin (some (.exit id)) j5.1
      exact ⟨_, _, f1, _, _, K4, rfl, f2, f3, .inr ⟨rfl, .exit id, hIx _ _ _ _ j5.2 (.setObj _ _ _), setObj_obj _ _ _⟩⟩
    | _ => exact j5.elim
  · -- the arguments
    refine ⟨by simp; omega, fun i x v hx hv => ?_⟩
    cases i with
    | zero =>
      obtain rfl : .one (.v (.func (.yield (w.heap.size + 1)) #[] #[])) = x := by simpa using hx
      rw [Array.getElem?_append_left (by simp)] at hv
      obtain rfl : .func (.yield (w.heap.size + 1)) #[] #[] = v := by simpa using hv
      exact .raw rfl
    | succ i =>
      simp only [List.getElem?_cons_succ, List.getElem?_map] at hx
      rw [Array.getElem?_append_right (by simp)] at hv
      simp only [List.size_toArray, List.length_cons, List.length_nil, Nat.add_sub_cancel, Nat.zero_add, Array.getElem?_toList] at hx hv
      rw [hv] at hx
      obtain rfl : .one (.v v) = x := by simpa using hx
      refine .raw ?_
      rw [List.all_eq_true] at hlb
      exact hlb v (Array.mem_toList_iff.2 (Array.mem_of_getElem? hv))

end Go.Proofs.Ytgkjhlmfgaaddaa.LF
end

section
/- Structs whose parts may be arrays, compared. -/
namespace Go.Proofs.Ytgkjhlmfgaaddaa.LF
open Go.RowKit
set_option linter.unusedVariables false

def both (a b : Option Bool) : Option Bool := match a, b with
  | some b, some c => some (b && c)
  | _, _ => none

/-- Two values of a type, by their cells; arrays, too. -/
def eqCellsA (D : Tab) : Nat → TypeId → List LV → List LV → Option Bool
  | 0, _, _, _ => none
  | n + 1, t, l1, l2 => match D.get t with
    | none => none
    | some i => match i.desc with
      | .struct fs => fs.toList.foldr (fun f r => match D.get f.type with
        | none => none
        | some j => both (eqCellsA D n f.type ((l1.drop f.offset).take j.size) ((l2.drop f.offset).take j.size)) r) (some true)
      | .array m e => match D.get e with
        | none => none
        | some j => (List.range m).foldr (fun k r => both (eqCellsA D n e ((l1.drop (k * j.size)).take j.size) ((l2.drop (k * j.size)).take j.size)) r) (some true)
      | d => match l1, l2 with
        | [.v a], [.v b] => eqPlain d a b
        | _, _ => none

def eqOKA (P : Program) (D : Tab) : Nat → TypeId → Bool
  | 0, _ => false
  | n + 1, t => match D.get t with
    | none => false
    | some i => match i.desc with
      | .struct fs => !P.stoodInHeld t && fs.toList.all fun f => f.name != "_" && eqOKA P D n f.type
      | .array _ e => (P.info? e).isSome && eqOKA P D n e
      | .bool => true
      | .int _ => true
      | .string => true
      | _ => false

structure EqTyA (P : Program) (D : Tab) (t : TypeId) : Prop where
  ok : eqOKA P D 5 t = true
  gd : P.eqGuardType P.depth t = false

theorem rep_part {P : Program} {w : World} {zs : Array Value} {l : List LV} (hz1 : zs.size = l.length) (hz2 : ∀ (j : Nat) x, l[j]? = some (.v x) → zs[j]? = some x) {t : TypeId} {j : TI} {off : Nat} (hj : TIok P t j) (hc : j.isAgg = true ∨ ∃ x, (l.drop off).take j.size = [.v x]) :
      ∃ v, (part t zs off).run P w = .ok v w ∧ RepC j ((l.drop off).take j.size) v := by
  cases ha : j.isAgg with
  | true =>
    refine ⟨_, run_part_agg hj ha zs off, ⟨fun _ => ⟨_, rfl, ?_, fun q x hq => ?_⟩, fun h => by rw [ha] at h; cases h⟩⟩
    · simp only [Array.size_extract, List.length_take, List.length_drop, hz1]; omega
    · rw [List.getElem?_take] at hq
      split at hq
      · rename_i hlt
        rw [List.getElem?_drop] at hq
        have h1 := hz2 _ x hq
        have h2 := (Array.getElem?_eq_some_iff.1 h1).1
        rw [Array.getElem?_extract]
        rw [if_pos (by omega)]
        exact h1
      · cases hq
  | false =>
    rcases hc with hc | ⟨x, hc⟩
    · rw [ha] at hc; cases hc
    · have h0 : l[off]? = some (.v x) := by
        have : ((l.drop off).take j.size)[0]? = some (.v x) := by rw [hc]; rfl
        rw [List.getElem?_take] at this
        split at this
        · simpa using this
        · cases this
      refine ⟨x, run_part_one hj ha zs off x (hz2 _ _ h0), ⟨fun h => (by rw [ha] at h; cases h), fun _ y hy => ?_⟩⟩
      rw [hc] at hy
      simpa using hy

theorem eqCellsA_shape {D : Tab} {n : Nat} {t : TypeId} {j : TI} {a1 a2 : List LV} {b : Bool} (hj : D.get t = some j) (he : eqCellsA D n t a1 a2 = some b) : (j.isAgg = true ∨ ∃ x, a1 = [.v x]) ∧ (j.isAgg = true ∨ ∃ x, a2 = [.v x]) := by
  cases n with
  | zero => simp [eqCellsA] at he
  | succ n =>
    unfold eqCellsA at he
    rw [hj] at he
    simp only at he
    split at he
    · rename_i fs hd
      have : j.isAgg = true := by simp [TI.isAgg, hd]
      exact ⟨.inl this, .inl this⟩
    · rename_i m e hd
      have : j.isAgg = true := by simp [TI.isAgg, hd]
      exact ⟨.inl this, .inl this⟩
    · split at he
      · exact ⟨.inr ⟨_, rfl⟩, .inr ⟨_, rfl⟩⟩
      · cases he

theorem both_some {a b : Option Bool} {c : Bool} (h : both a b = some c) : ∃ x y, a = some x ∧ b = some y ∧ c = (x && y) := by
  unfold both at h
  split at h
  · exact ⟨_, _, rfl, rfl, (Option.some.inj h).symm⟩
  · cases h

abbrev EqIH (P : Program) (D : Tab) (w : World) (n m : Nat) : Prop := ∀ (t : TypeId) (i : TI) (l1 l2 : List LV) (v1 v2 : Value) (b : Bool), D.get t = some i → RepC i l1 v1 → RepC i l2 v2 → eqCellsA D n t l1 l2 = some b → eqOKA P D n t = true → (Op.equalIn (n + m) t v1 v2).run P w = .ok b w

section
variable {P : Program} {D : Tab} (hD : TabOK P D) {w : World} {n m : Nat} (ih : EqIH P D w n m) {xs ys : Array Value} {l1 l2 : List LV} (hx1 : xs.size = l1.length) (hx2 : ∀ (j : Nat) x, l1[j]? = some (.v x) → xs[j]? = some x) (hy1 : ys.size = l2.length) (hy2 : ∀ (j : Nat) x, l2[j]? = some (.v x) → ys[j]? = some x)
include hD ih hx1 hx2 hy1 hy2

theorem eqFieldsA_run :
    ∀ (fs : List Field) (b : Bool), (fs.all fun f => f.name != "_" && eqOKA P D n f.type) = true → fs.foldr (fun f r => match D.get f.type with
        | none => none
        | some j => both (eqCellsA D n f.type ((l1.drop f.offset).take j.size) ((l2.drop f.offset).take j.size)) r) (some true) = some b → (Op.eqFields (n + m) xs ys fs).run P w = .ok b w := by
  intro fs
  induction fs with
  | nil => intro b _ h; obtain rfl := Option.some.inj h; simp [Op.eqFields]
  | cons f fs ihf =>
    intro b hall h
    rw [List.all_cons, Bool.and_eq_true, Bool.and_eq_true] at hall
    obtain ⟨⟨hn, hok⟩, hall⟩ := hall
    rw [List.foldr_cons] at h
    cases hj : D.get f.type with
    | none => rw [hj] at h; cases h
    | some j =>
      rw [hj] at h
      obtain ⟨b1, c, he, hr, rfl⟩ := both_some h
      obtain ⟨s1, s2⟩ := eqCellsA_shape hj he
      obtain ⟨v1, p1, r1⟩ := rep_part (w := w) hx1 hx2 (off := f.offset) (hD.get hj) s1
      obtain ⟨v2, p2, r2⟩ := rep_part (w := w) hy1 hy2 (off := f.offset) (hD.get hj) s2
      have e1 := ih f.type j _ _ v1 v2 b1 hj r1 r2 he hok
      have e2 := ihf c hall hr
      have hne : f.name ≠ "_" := by simpa using hn
      simp only [Op.eqFields, hne, ne_eq, not_false_eq_true, if_true, Sem.run_bind, p1, p2, e1, Result.andThen_ok]
      cases b1 with
      | true => simpa using e2
      | false => simp

theorem eqItemsA_run {e : TypeId} {j : TI} (hj : D.get e = some j) (hok : eqOKA P D n e = true) :
    ∀ (is : List Nat) (b : Bool), is.foldr (fun k r => both (eqCellsA D n e ((l1.drop (k * j.size)).take j.size) ((l2.drop (k * j.size)).take j.size)) r) (some true) = some b → (Op.eqItems (n + m) e j.size xs ys is).run P w = .ok b w := by
  intro is
  induction is with
  | nil => intro b h; obtain rfl := Option.some.inj h; simp [Op.eqItems]
  | cons k is ihf =>
    intro b h
    rw [List.foldr_cons] at h
    obtain ⟨b1, c, he, hr, rfl⟩ := both_some h
    obtain ⟨s1, s2⟩ := eqCellsA_shape hj he
    obtain ⟨v1, p1, r1⟩ := rep_part (w := w) hx1 hx2 (off := k * j.size) (hD.get hj) s1
    obtain ⟨v2, p2, r2⟩ := rep_part (w := w) hy1 hy2 (off := k * j.size) (hD.get hj) s2
    have e1 := ih e j _ _ v1 v2 b1 hj r1 r2 he hok
    have e2 := ihf c hr
    simp only [Op.eqItems, Sem.run_bind, p1, p2, e1, Result.andThen_ok]
    cases b1 with
    | true => simpa using e2
    | false => simp
end

theorem eqCellsA_run {P : Program} {D : Tab} (hD : TabOK P D) {w : World} {m : Nat} : ∀ (n : Nat), EqIH P D w n m := by
  intro n
  induction n with
  | zero => intro t i l1 l2 v1 v2 b _ _ _ h; simp [eqCellsA] at h
  | succ n ih =>
    intro t i l1 l2 v1 v2 b hi r1 r2 he hok
    rw [Nat.succ_add]
    have hu := (hD.get hi).und
    unfold eqCellsA at he
    unfold eqOKA at hok
    rw [hi] at he hok
    simp only at he hok
    split at he
    · rename_i fs hd
      rw [hd] at hok hu
      simp only [Bool.and_eq_true] at hok
      obtain ⟨h1, h2⟩ := hok
      have ha : i.isAgg = true := by simp [TI.isAgg, hd]
      obtain ⟨xs, rfl, a1, a2⟩ := r1.1 ha
      obtain ⟨ys, rfl, b1, b2⟩ := r2.1 ha
      have hf : P.fieldsOf t = fs := by simp [Program.fieldsOf, hu]
      rw [run_equalIn_struct w _ t xs ys (by rw [hf]; exact hu) (by simpa using h1), hf]
      exact eqFieldsA_run hD ih a1 a2 b1 b2 fs.toList b h2 he
    · rename_i q e hd
      rw [hd] at hok hu
      simp only [Bool.and_eq_true] at hok
      obtain ⟨h1, h2⟩ := hok
      have ha : i.isAgg = true := by simp [TI.isAgg, hd]
      obtain ⟨xs, rfl, a1, a2⟩ := r1.1 ha
      obtain ⟨ys, rfl, b1, b2⟩ := r2.1 ha
      obtain ⟨inf, hinf⟩ := Option.isSome_iff_exists.1 h1
      rw [run_equalIn_array w _ xs ys hu hinf]
      cases hj : D.get e with
      | none => rw [hj] at he; cases he
      | some j =>
        rw [hj] at he
        have e1 := cellsOf' (hD.get hj)
        rw [e1]
        exact eqItemsA_run hD ih a1 a2 b1 b2 hj h2 _ b he
    · rename_i hns
      split at he
      · rename_i a c
        have ha : i.isAgg = false := by
          cases hq : i.desc <;> rw [hq] at he <;> first | rfl | (simp [TI.isAgg, hq]; done) | (simp [eqPlain] at he)
        obtain rfl := r1.2 ha _ rfl
        obtain rfl := r2.2 ha _ rfl
        exact eqPlain_run (hD.get hi) he _
      · cases he

theorem LVal.eqAggA {G : Ctx} {D : Tab} (hD : TabOK G.P D) {o : Oper} {T : Nat → TV} {S : LS} {t u : TypeId} {x y : Operand} {l1 l2 : List LV} {i : TI} {b : Bool} (ho : o.op = .binOp .eql t x y u) (hx : lev T x = .agg l1) (hy : lev T y = .agg l2)
    (hi : D.get t = some i) (ha : i.isAgg = true) (hok : EqTyA G.P D t) (he : eqCellsA D 5 t l1 l2 = some b) : LVal G o T S (.one (.v (.bool b))) :=
  .of_run fun K w ac _ hr => by
    have h1 := hr x (by rw [ho]; simp [Op.operands])
    have h2 := hr y (by rw [ho]; simp [Op.operands])
    rw [hx] at h1
    rw [hy] at h2
    have r1 := RepC.of ha h1
    have r2 := RepC.of ha h2
    obtain ⟨xs, e1, _⟩ := h1.agg_inv
    obtain ⟨ys, e2, _⟩ := h2.agg_inv
    rw [e1] at r1
    rw [e2] at r2
    have := eqCellsA_run hD (w := w) (m := 9995) 5 t i l1 l2 _ _ b hi r1 r2 he hok.ok
    refine ⟨.bool b, ?_, .raw rfl⟩
    simp only [execOp, ho, e1, e2, Sem.run_bind, run_eqGuard_agg w .eql t x y xs ys hok.gd, Result.andThen_ok, run_eql_struct, this, Sem.run_pure]

theorem LVal.neqAggA {G : Ctx} {D : Tab} (hD : TabOK G.P D) {o : Oper} {T : Nat → TV} {S : LS} {t u : TypeId} {x y : Operand} {l1 l2 : List LV} {i : TI} {b : Bool} (ho : o.op = .binOp .neq t x y u) (hx : lev T x = .agg l1) (hy : lev T y = .agg l2)
    (hi : D.get t = some i) (ha : i.isAgg = true) (hok : EqTyA G.P D t) (he : eqCellsA D 5 t l1 l2 = some b) : LVal G o T S (.one (.v (.bool (!b)))) :=
  .of_run fun K w ac _ hr => by
    have h1 := hr x (by rw [ho]; simp [Op.operands])
    have h2 := hr y (by rw [ho]; simp [Op.operands])
    rw [hx] at h1
    rw [hy] at h2
    have r1 := RepC.of ha h1
    have r2 := RepC.of ha h2
    obtain ⟨xs, e1, _⟩ := h1.agg_inv
    obtain ⟨ys, e2, _⟩ := h2.agg_inv
    rw [e1] at r1
    rw [e2] at r2
    have := eqCellsA_run hD (w := w) (m := 9995) 5 t i l1 l2 _ _ b hi r1 r2 he hok.ok
    refine ⟨.bool (!b), ?_, .raw rfl⟩
    simp only [execOp, ho, e1, e2, Sem.run_bind, run_eqGuard_agg w .neq t x y xs ys hok.gd, Result.andThen_ok, run_neq_struct, this, Sem.run_pure]
end Go.Proofs.Ytgkjhlmfgaaddaa.LF
end
