/- The frame's steps, their side conditions found at the place of use. (Printed by gen_auto.py.) -/
import Derived.Test.YtkjbdldjfjkneaaLFp
set_option linter.unusedVariables false
set_option linter.unusedSimpArgs false
namespace Go.Proofs.Ytkjbdldjfjkneaa.LF
open Go.RowKit
set_option linter.unusedVariables false

/-- A value. -/
theorem LOps.valA {G : Ctx} {M : Option Nat} {n : Nat} {ops : Array Oper} {o : Oper} {l : List Oper} {Q : (Nat → TV) → LS → Prop} {T : Nat → TV} {S : LS} {r : TV} {d : Nat} (k : LOps G M n ops l Q (upd T d r) S)
    (hg : o.guard = none := by rfl) (hd : o.dst = some d := by rfl) (hn : Nat.blt d n = true := by rfl)
    (h : LVal G o T S r := by
      first
      | (guard_target = LVal _ ⟨_, (.move _), _, _, _, _⟩ _ _ _; first
          | exact LVal.move1 rfl rfl
          | exact LVal.move2 rfl rfl
          | exact LVal.move (.inl rfl))
      | (guard_target = LVal _ ⟨_, (.assign _), _, _, _, _⟩ _ _ _; first
          | exact LVal.assign1 rfl rfl
          | exact LVal.assign2 rfl rfl
          | exact LVal.move (.inr rfl))
      | (guard_target = LVal _ ⟨_, (.nilCheck _), _, _, _, _⟩ _ _ _; first
          | exact LVal.nilCheck rfl rfl
          | exact LVal.nilCheckP rfl rfl)
      | (guard_target = LVal _ ⟨_, (.fieldAddr _ _ _), _, _, _, _⟩ _ _ _; first
          | exact LVal.fieldAddr hD rfl rfl rfl rfl rfl rfl (by decide)
          | exact LVal.fieldAddrRo hD rfl rfl rfl rfl rfl rfl (by decide))
      | (guard_target = LVal _ ⟨_, (.load _ _), _, _, _, _⟩ _ _ _; first
          | exact LVal.load hD rfl rfl (by first | assumption | exact box_new _ _ _ | exact box_set _ _ _ | (simp only [box_new, box_set, box_row, box_new_ne, box_set_ne, ne_eq, not_false_eq_true, *] <;> rfl)) rfl rfl
          | exact LVal.loadRo hD rfl rfl rfl rfl)
      | (guard_target = LVal _ ⟨_, (.call _), _, _, _, _⟩ _ _ _; first
          | exact LVal.len hD rfl rfl rfl rfl
          | exact LVal.lenStr hD rfl rfl rfl rfl)
      | (guard_target = LVal _ ⟨_, (.binOp _ _ _ _ _), _, _, _, _⟩ _ _ _; first
          | exact LVal.add64 rfl rfl rfl (by omega)
          | exact LVal.sub64 rfl rfl rfl (by omega)
          | exact LVal.addU64 rfl rfl rfl (by omega)
          | exact LVal.subU64 rfl rfl rfl (by omega)
          | exact LVal.mulU64 rfl rfl rfl (by omega)
          | exact LVal.remI rfl rfl rfl (by omega)
          | exact LVal.quoU64 rfl rfl rfl (by omega)
          | exact LVal.quo64 rfl rfl rfl (by omega)
          | exact LVal.mul64 rfl rfl rfl (by omega)
          | exact LVal.neqSame hD rfl rfl rfl
          | exact LVal.neqSameB hD rfl rfl rfl rfl rfl
          | exact LVal.eqStr rfl rfl rfl
          | exact LVal.neqStr rfl rfl rfl
          | exact LVal.eqNilP hD rfl rfl rfl rfl
          | exact LVal.neqNilP hD rfl rfl rfl rfl
          | exact LVal.eqAgg hD rfl rfl rfl rfl rfl (by assumption) rfl
          | exact LVal.neqAgg hD rfl rfl rfl rfl rfl (by assumption) rfl
          | exact LVal.binOp hD rfl rfl rfl rfl)
      | (guard_target = LVal _ ⟨_, (.convert _ _ _), _, _, _, _⟩ _ _ _; first
          | exact LVal.conv64 hD rfl rfl rfl rfl rfl (by omega)
          | exact LVal.convU64 hD rfl rfl rfl rfl rfl (by omega)
          | exact LVal.convInt hD rfl rfl rfl rfl rfl)
      | (guard_target = LVal _ ⟨_, (.unOp _ _ _), _, _, _, _⟩ _ _ _; first | exact LVal.unOp rfl rfl rfl)
      | (guard_target = LVal _ ⟨_, (.pick _ _ _), _, _, _, _⟩ _ _ _; first
          | exact LVal.pickOr rfl rfl rfl (by first | rfl | assumption | exact andL (by assumption)) (by intro hb; first | rfl | exact beqF hb | exact andI (by assumption) (beqF hb))
          | exact LVal.pickAnd rfl rfl rfl (by first | rfl | assumption | exact andL (by assumption)) (by intro hb; first | rfl | exact beqT hb | exact andI (by assumption) (beqT hb))
          | exact LVal.pick rfl rfl)
      | (guard_target = LVal _ ⟨_, (.extract _ _), _, _, _, _⟩ _ _ _; first | exact LVal.extract rfl rfl rfl)
      | (guard_target = LVal _ ⟨_, (.indexAddr _ _ _), _, _, _, _⟩ _ _ _; first
          | exact LVal.indexE hD rfl rfl rfl rfl rfl rfl (by first | assumption | omega | (simp at hw; omega)) rfl rfl
          | exact LVal.indexG hD rfl rfl rfl rfl rfl rfl rfl (by first | assumption | omega | (simp at hw; omega)) rfl
          | exact LVal.indexC hD rfl rfl rfl rfl rfl rfl (by decide) rfl rfl rfl)
      | (guard_target = LVal _ ⟨_, (.field _ _ _), _, _, _, _⟩ _ _ _; first | exact LVal.field hD rfl rfl rfl rfl rfl rfl rfl)
      | (guard_target = LVal _ ⟨_, (.buildSlice _ _ _), _, _, _, _⟩ _ _ _; first | exact LVal.buildSlice1 hD rfl rfl rfl rfl rfl rfl rfl rfl rfl rfl)
      | (guard_target = LVal _ ⟨_, (.build _ _), _, _, _, _⟩ _ _ _; first | exact LVal.build hD rfl rfl rfl rfl rfl rfl rfl)
      | (guard_target = LVal _ ⟨_, (.slice _ _ _ _ _), _, _, _, _⟩ _ _ _; first
          | exact LVal.takeMap hD rfl rfl rfl rfl rfl rfl (by first | assumption | omega | (simp at hw; omega)) rfl (fun _ _ => rfl)
          | exact LVal.dropMap hD rfl rfl rfl rfl rfl rfl (by first | assumption | omega | (simp at hw; omega)) rfl (fun _ _ => rfl)
          | exact LVal.cutMap hD rfl rfl rfl rfl rfl rfl rfl (by first | assumption | omega | (simp at hw; omega)) (by first | assumption | omega | (simp at hw; omega)) rfl (fun _ _ => rfl))) : LOps G M n ops (o :: l) Q T S := .val h hg hd hn k

/-- Left out. -/
theorem LOps.outA {G : Ctx} {M : Option Nat} {n : Nat} {ops : Array Oper} {o : Oper} {l : List Oper} {Q : (Nat → TV) → LS → Prop} {T : Nat → TV} {S : LS} {d : Nat} (k : LOps G M n ops l Q (upd T d (.tup [])) S) (hg : wantedT ops T o = some false := by rfl) (hd : o.dst = some d := by rfl) (hn : Nat.blt d n = true := by rfl) : LOps G M n ops (o :: l) Q T S := .out hg hd hn k

/-- A value under a guard. -/
theorem LOps.whenA {G : Ctx} {M : Option Nat} {n : Nat} {ops : Array Oper} {o : Oper} {l : List Oper} {Q : (Nat → TV) → LS → Prop} {T : Nat → TV} {S : LS} {g : Bool} {r : TV} {d : Nat} (k : LOps G M n ops l Q (upd T d (.when g r)) S)
    (hg : wantedT ops T o = some g := by rfl) (hd : o.dst = some d := by rfl) (hn : Nat.blt d n = true := by rfl) (hw : g = true → allT (whens T o.op.operands.toList) := by intro hw; first | exact trivial | exact ⟨hw, trivial⟩ | exact ⟨hw, hw, trivial⟩ | exact ⟨hw, hw, hw, trivial⟩ | exact ⟨andL hw, trivial⟩ | exact ⟨andL hw, hw, trivial⟩ | exact ⟨hw, andL hw, trivial⟩)
    (h : g = true → LVal G o (strip T) S r := by
      intro hw
      first
      | (guard_target = LVal _ ⟨_, (.move _), _, _, _, _⟩ _ _ _; first
          | exact LVal.move1 rfl rfl
          | exact LVal.move2 rfl rfl
          | exact LVal.move (.inl rfl))
      | (guard_target = LVal _ ⟨_, (.assign _), _, _, _, _⟩ _ _ _; first
          | exact LVal.assign1 rfl rfl
          | exact LVal.assign2 rfl rfl
          | exact LVal.move (.inr rfl))
      | (guard_target = LVal _ ⟨_, (.nilCheck _), _, _, _, _⟩ _ _ _; first
          | exact LVal.nilCheck rfl rfl
          | exact LVal.nilCheckP rfl rfl)
      | (guard_target = LVal _ ⟨_, (.fieldAddr _ _ _), _, _, _, _⟩ _ _ _; first
          | exact LVal.fieldAddr hD rfl rfl rfl rfl rfl rfl (by decide)
          | exact LVal.fieldAddrRo hD rfl rfl rfl rfl rfl rfl (by decide))
      | (guard_target = LVal _ ⟨_, (.load _ _), _, _, _, _⟩ _ _ _; first
          | exact LVal.load hD rfl rfl (by first | assumption | exact box_new _ _ _ | exact box_set _ _ _ | (simp only [box_new, box_set, box_row, box_new_ne, box_set_ne, ne_eq, not_false_eq_true, *] <;> rfl)) rfl rfl
          | exact LVal.loadRo hD rfl rfl rfl rfl)
      | (guard_target = LVal _ ⟨_, (.call _), _, _, _, _⟩ _ _ _; first
          | exact LVal.len hD rfl rfl rfl rfl
          | exact LVal.lenStr hD rfl rfl rfl rfl)
      | (guard_target = LVal _ ⟨_, (.binOp _ _ _ _ _), _, _, _, _⟩ _ _ _; first
          | exact LVal.add64 rfl rfl rfl (by omega)
          | exact LVal.sub64 rfl rfl rfl (by omega)
          | exact LVal.addU64 rfl rfl rfl (by omega)
          | exact LVal.subU64 rfl rfl rfl (by omega)
          | exact LVal.mulU64 rfl rfl rfl (by omega)
          | exact LVal.remI rfl rfl rfl (by omega)
          | exact LVal.quoU64 rfl rfl rfl (by omega)
          | exact LVal.quo64 rfl rfl rfl (by omega)
          | exact LVal.mul64 rfl rfl rfl (by omega)
          | exact LVal.neqSame hD rfl rfl rfl
          | exact LVal.neqSameB hD rfl rfl rfl rfl rfl
          | exact LVal.eqStr rfl rfl rfl
          | exact LVal.neqStr rfl rfl rfl
          | exact LVal.eqNilP hD rfl rfl rfl rfl
          | exact LVal.neqNilP hD rfl rfl rfl rfl
          | exact LVal.eqAgg hD rfl rfl rfl rfl rfl (by assumption) rfl
          | exact LVal.neqAgg hD rfl rfl rfl rfl rfl (by assumption) rfl
          | exact LVal.binOp hD rfl rfl rfl rfl)
      | (guard_target = LVal _ ⟨_, (.convert _ _ _), _, _, _, _⟩ _ _ _; first
          | exact LVal.conv64 hD rfl rfl rfl rfl rfl (by omega)
          | exact LVal.convU64 hD rfl rfl rfl rfl rfl (by omega)
          | exact LVal.convInt hD rfl rfl rfl rfl rfl)
      | (guard_target = LVal _ ⟨_, (.unOp _ _ _), _, _, _, _⟩ _ _ _; first | exact LVal.unOp rfl rfl rfl)
      | (guard_target = LVal _ ⟨_, (.pick _ _ _), _, _, _, _⟩ _ _ _; first
          | exact LVal.pickOr rfl rfl rfl (by first | rfl | assumption | exact andL (by assumption)) (by intro hb; first | rfl | exact beqF hb | exact andI (by assumption) (beqF hb))
          | exact LVal.pickAnd rfl rfl rfl (by first | rfl | assumption | exact andL (by assumption)) (by intro hb; first | rfl | exact beqT hb | exact andI (by assumption) (beqT hb))
          | exact LVal.pick rfl rfl)
      | (guard_target = LVal _ ⟨_, (.extract _ _), _, _, _, _⟩ _ _ _; first | exact LVal.extract rfl rfl rfl)
      | (guard_target = LVal _ ⟨_, (.indexAddr _ _ _), _, _, _, _⟩ _ _ _; first
          | exact LVal.indexE hD rfl rfl rfl rfl rfl rfl (by first | assumption | omega | (simp at hw; omega)) rfl rfl
          | exact LVal.indexG hD rfl rfl rfl rfl rfl rfl rfl (by first | assumption | omega | (simp at hw; omega)) rfl
          | exact LVal.indexC hD rfl rfl rfl rfl rfl rfl (by decide) rfl rfl rfl)
      | (guard_target = LVal _ ⟨_, (.field _ _ _), _, _, _, _⟩ _ _ _; first | exact LVal.field hD rfl rfl rfl rfl rfl rfl rfl)
      | (guard_target = LVal _ ⟨_, (.buildSlice _ _ _), _, _, _, _⟩ _ _ _; first | exact LVal.buildSlice1 hD rfl rfl rfl rfl rfl rfl rfl rfl rfl rfl)
      | (guard_target = LVal _ ⟨_, (.build _ _), _, _, _, _⟩ _ _ _; first | exact LVal.build hD rfl rfl rfl rfl rfl rfl rfl)
      | (guard_target = LVal _ ⟨_, (.slice _ _ _ _ _), _, _, _, _⟩ _ _ _; first
          | exact LVal.takeMap hD rfl rfl rfl rfl rfl rfl (by first | assumption | omega | (simp at hw; omega)) rfl (fun _ _ => rfl)
          | exact LVal.dropMap hD rfl rfl rfl rfl rfl rfl (by first | assumption | omega | (simp at hw; omega)) rfl (fun _ _ => rfl)
          | exact LVal.cutMap hD rfl rfl rfl rfl rfl rfl rfl (by first | assumption | omega | (simp at hw; omega)) (by first | assumption | omega | (simp at hw; omega)) rfl (fun _ _ => rfl))) : LOps G M n ops (o :: l) Q T S := .when hg (fun e => .strip (hw e) (h e)) hd hn k

theorem LOps.pickA {G : Ctx} {M : Option Nat} {n : Nat} {ops : Array Oper} {o : Oper} {l : List Oper} {Q : (Nat → TV) → LS → Prop} {T : Nat → TV} {S : LS} {g : Bool} {r : TV} {d : Nat} (k : LOps G M n ops l Q (upd T d (.when g r)) S)
    (hg : wantedT ops T o = some g := by rfl) (hd : o.dst = some d := by rfl) (hn : Nat.blt d n = true := by rfl)
    (h : g = true → LVal G o T S r := by intro hw; first | exact LVal.pickOr rfl rfl rfl (by first | rfl | assumption | exact andL (by assumption)) (by intro hb; first | rfl | exact beqF hb | exact andI (by assumption) (beqF hb)) | exact LVal.pickAnd rfl rfl rfl (by first | rfl | assumption | exact andL (by assumption)) (by intro hb; first | rfl | exact beqT hb | exact andI (by assumption) (beqT hb))) : LOps G M n ops (o :: l) Q T S := .when hg h hd hn k

/-- A call under a guard. -/
theorem LOps.whenC {G : Ctx} {M : Option Nat} {n : Nat} {ops : Array Oper} {o : Oper} {l : List Oper} {Q : (Nat → TV) → LS → Prop} {T : Nat → TV} {S : LS} {g : Bool} {r : TV} {d : Nat} (h : LVal G o (strip T) S r) (k : LOps G M n ops l Q (upd T d (.when g r)) S)
    (hg : wantedT ops T o = some g := by rfl) (hd : o.dst = some d := by rfl) (hn : Nat.blt d n = true := by rfl) (hw : g = true → allT (whens T o.op.operands.toList) := by intro hw; first | exact trivial | exact ⟨hw, trivial⟩ | exact ⟨hw, hw, trivial⟩ | exact ⟨hw, hw, hw, trivial⟩ | exact ⟨andL hw, trivial⟩ | exact ⟨andL hw, hw, trivial⟩ | exact ⟨hw, andL hw, trivial⟩) : LOps G M n ops (o :: l) Q T S := .whenS hg hw h hd hn k

/-- A store. -/
theorem LOps.storeA {G : Ctx} {D : Tab} {M : Option Nat} {n : Nat} {ops : Array Oper} {o : Oper} {os : List Oper} {Q : (Nat → TV) → LS → Prop} {T : Nat → TV} {S : LS} {t : TypeId} {p x : Operand} {b off : Nat} {cs l : List LV} {i : TI} (k : LOps G M n ops os Q T (S.setBox b (splice cs off l)))
    (hd : o.dst = none := by rfl) (hg : wantedT ops T o = some true := by rfl) (ho : o.op = .store t p x := by rfl) (hD : TabOK G.P D := by assumption)
    (hp : lev T p = .one (.v (.pointer (some ⟨b, off, none⟩))) := by rfl) (hb : S.box b = some cs := by first | assumption | exact box_new _ _ _ | exact box_set _ _ _ | (simp only [box_new, box_set, box_row, box_new_ne, box_set_ne, ne_eq, not_false_eq_true, *] <;> rfl)) (hx : tcells (lev T x) = some l := by rfl) (hi : D.get t = some i := by rfl) (hs : Nat.beq l.length i.size = true := by rfl) (hl : Nat.ble (off + l.length) cs.length = true := by rfl) :
    LOps G M n ops (o :: os) Q T S := .do0 (LDo.store hD ho hp hb hx hi hs hl) hg hd (by rintro _ _ ⟨rfl, rfl⟩; exact k)

theorem LRl.valA {X : Nat → Prop} {G : Ctx} {M : Option Nat} {n : Nat} {ops : List Oper} {ord : List Nat} {Q : (Nat → TV) → LS → Prop} {l : List Oper} {p : Nat} {T : Nat → TV} {S : LS} {o : Oper} {r : TV} {d : Nat} (k : LRl X G M n ops ord Q l (p + 1) (upd T d r) S)
    (hg : o.guard = none := by rfl) (hd : o.dst = some d := by rfl) (hn : Nat.blt d n = true := by rfl)
    (h : ∀ S', S.leX X S' → LVal G o T S' r := by
      intro _ hS
      first
      | (guard_target = LVal _ ⟨_, (.move _), _, _, _, _⟩ _ _ _; first
          | exact LVal.move1 rfl rfl
          | exact LVal.move2 rfl rfl
          | exact LVal.move (.inl rfl))
      | (guard_target = LVal _ ⟨_, (.assign _), _, _, _, _⟩ _ _ _; first
          | exact LVal.assign1 rfl rfl
          | exact LVal.assign2 rfl rfl
          | exact LVal.move (.inr rfl))
      | (guard_target = LVal _ ⟨_, (.nilCheck _), _, _, _, _⟩ _ _ _; first
          | exact LVal.nilCheck rfl rfl
          | exact LVal.nilCheckP rfl rfl)
      | (guard_target = LVal _ ⟨_, (.fieldAddr _ _ _), _, _, _, _⟩ _ _ _; first
          | exact LVal.fieldAddr hD rfl rfl rfl rfl rfl rfl (by decide)
          | exact LVal.fieldAddrRo hD rfl rfl rfl rfl rfl rfl (by decide))
      | (guard_target = LVal _ ⟨_, (.load _ _), _, _, _, _⟩ _ _ _; first
          | exact LVal.load hD rfl rfl (hS.box _ _ (by first | assumption | exact box_new _ _ _ | exact box_set _ _ _ | (simp only [box_new, box_set, box_row, box_new_ne, box_set_ne, ne_eq, not_false_eq_true, *] <;> rfl)) (by first | exact id | assumption | (intro hx; rcases hx with hx | hx <;> omega) | (intro hx; have hx2 : _ = _ := hx; omega))) rfl rfl
          | exact LVal.loadRo hD rfl rfl rfl rfl)
      | (guard_target = LVal _ ⟨_, (.call _), _, _, _, _⟩ _ _ _; first
          | exact LVal.len hD rfl rfl rfl rfl
          | exact LVal.lenStr hD rfl rfl rfl rfl)
      | (guard_target = LVal _ ⟨_, (.binOp _ _ _ _ _), _, _, _, _⟩ _ _ _; first
          | exact LVal.add64 rfl rfl rfl (by omega)
          | exact LVal.sub64 rfl rfl rfl (by omega)
          | exact LVal.addU64 rfl rfl rfl (by omega)
          | exact LVal.subU64 rfl rfl rfl (by omega)
          | exact LVal.mulU64 rfl rfl rfl (by omega)
          | exact LVal.remI rfl rfl rfl (by omega)
          | exact LVal.quoU64 rfl rfl rfl (by omega)
          | exact LVal.quo64 rfl rfl rfl (by omega)
          | exact LVal.mul64 rfl rfl rfl (by omega)
          | exact LVal.neqSame hD rfl rfl rfl
          | exact LVal.neqSameB hD rfl rfl rfl rfl rfl
          | exact LVal.eqStr rfl rfl rfl
          | exact LVal.neqStr rfl rfl rfl
          | exact LVal.eqNilP hD rfl rfl rfl rfl
          | exact LVal.neqNilP hD rfl rfl rfl rfl
          | exact LVal.eqAgg hD rfl rfl rfl rfl rfl (by assumption) rfl
          | exact LVal.neqAgg hD rfl rfl rfl rfl rfl (by assumption) rfl
          | exact LVal.binOp hD rfl rfl rfl rfl)
      | (guard_target = LVal _ ⟨_, (.convert _ _ _), _, _, _, _⟩ _ _ _; first
          | exact LVal.conv64 hD rfl rfl rfl rfl rfl (by omega)
          | exact LVal.convU64 hD rfl rfl rfl rfl rfl (by omega)
          | exact LVal.convInt hD rfl rfl rfl rfl rfl)
      | (guard_target = LVal _ ⟨_, (.unOp _ _ _), _, _, _, _⟩ _ _ _; first | exact LVal.unOp rfl rfl rfl)
      | (guard_target = LVal _ ⟨_, (.pick _ _ _), _, _, _, _⟩ _ _ _; first
          | exact LVal.pickOr rfl rfl rfl (by first | rfl | assumption | exact andL (by assumption)) (by intro hb; first | rfl | exact beqF hb | exact andI (by assumption) (beqF hb))
          | exact LVal.pickAnd rfl rfl rfl (by first | rfl | assumption | exact andL (by assumption)) (by intro hb; first | rfl | exact beqT hb | exact andI (by assumption) (beqT hb))
          | exact LVal.pick rfl rfl)
      | (guard_target = LVal _ ⟨_, (.extract _ _), _, _, _, _⟩ _ _ _; first | exact LVal.extract rfl rfl rfl)
      | (guard_target = LVal _ ⟨_, (.indexAddr _ _ _), _, _, _, _⟩ _ _ _; first
          | exact LVal.indexE hD rfl rfl rfl rfl rfl rfl (by first | assumption | omega | (simp at hw; omega)) rfl rfl
          | exact LVal.indexG hD rfl rfl rfl rfl rfl rfl rfl (by first | assumption | omega | (simp at hw; omega)) rfl
          | exact LVal.indexC hD rfl rfl rfl rfl rfl rfl (by decide) rfl rfl rfl)
      | (guard_target = LVal _ ⟨_, (.field _ _ _), _, _, _, _⟩ _ _ _; first | exact LVal.field hD rfl rfl rfl rfl rfl rfl rfl)
      | (guard_target = LVal _ ⟨_, (.buildSlice _ _ _), _, _, _, _⟩ _ _ _; first | exact LVal.buildSlice1 hD rfl rfl rfl rfl rfl rfl rfl rfl rfl rfl)
      | (guard_target = LVal _ ⟨_, (.build _ _), _, _, _, _⟩ _ _ _; first | exact LVal.build hD rfl rfl rfl rfl rfl rfl rfl)
      | (guard_target = LVal _ ⟨_, (.slice _ _ _ _ _), _, _, _, _⟩ _ _ _; first
          | exact LVal.takeMap hD rfl rfl rfl rfl rfl rfl (by first | assumption | omega | (simp at hw; omega)) rfl (fun _ _ => rfl)
          | exact LVal.dropMap hD rfl rfl rfl rfl rfl rfl (by first | assumption | omega | (simp at hw; omega)) rfl (fun _ _ => rfl)
          | exact LVal.cutMap hD rfl rfl rfl rfl rfl rfl rfl (by first | assumption | omega | (simp at hw; omega)) (by first | assumption | omega | (simp at hw; omega)) rfl (fun _ _ => rfl))) : LRl X G M n ops ord Q (o :: l) p T S := .val0 h hg hd hn k

theorem LRl.outA {X : Nat → Prop} {G : Ctx} {M : Option Nat} {n : Nat} {ops : List Oper} {ord : List Nat} {Q : (Nat → TV) → LS → Prop} {l : List Oper} {p : Nat} {T : Nat → TV} {S : LS} {o : Oper} {d : Nat} (k : LRl X G M n ops ord Q l (p + 1) (upd T d (.tup [])) S) (hg : wantedT ops.toArray T o = some false := by rfl) (hd : o.dst = some d := by rfl) (hn : Nat.blt d n = true := by rfl) : LRl X G M n ops ord Q (o :: l) p T S := .skip hg hd hn k

theorem LRl.whenA {X : Nat → Prop} {G : Ctx} {M : Option Nat} {n : Nat} {ops : List Oper} {ord : List Nat} {Q : (Nat → TV) → LS → Prop} {l : List Oper} {p : Nat} {T : Nat → TV} {S : LS} {o : Oper} {g : Bool} {r : TV} {d : Nat} (k : LRl X G M n ops ord Q l (p + 1) (upd T d (.when g r)) S)
    (hg : wantedT ops.toArray T o = some g := by rfl) (hd : o.dst = some d := by rfl) (hn : Nat.blt d n = true := by rfl) (hw : g = true → allT (whens T o.op.operands.toList) := by intro hw; first | exact trivial | exact ⟨hw, trivial⟩ | exact ⟨hw, hw, trivial⟩ | exact ⟨hw, hw, hw, trivial⟩ | exact ⟨andL hw, trivial⟩ | exact ⟨andL hw, hw, trivial⟩ | exact ⟨hw, andL hw, trivial⟩)
    (h : ∀ S', S.leX X S' → g = true → LVal G o (strip T) S' r := by
      intro _ hS hw
      first
      | (guard_target = LVal _ ⟨_, (.move _), _, _, _, _⟩ _ _ _; first
          | exact LVal.move1 rfl rfl
          | exact LVal.move2 rfl rfl
          | exact LVal.move (.inl rfl))
      | (guard_target = LVal _ ⟨_, (.assign _), _, _, _, _⟩ _ _ _; first
          | exact LVal.assign1 rfl rfl
          | exact LVal.assign2 rfl rfl
          | exact LVal.move (.inr rfl))
      | (guard_target = LVal _ ⟨_, (.nilCheck _), _, _, _, _⟩ _ _ _; first
          | exact LVal.nilCheck rfl rfl
          | exact LVal.nilCheckP rfl rfl)
      | (guard_target = LVal _ ⟨_, (.fieldAddr _ _ _), _, _, _, _⟩ _ _ _; first
          | exact LVal.fieldAddr hD rfl rfl rfl rfl rfl rfl (by decide)
          | exact LVal.fieldAddrRo hD rfl rfl rfl rfl rfl rfl (by decide))
      | (guard_target = LVal _ ⟨_, (.load _ _), _, _, _, _⟩ _ _ _; first
          | exact LVal.load hD rfl rfl (hS.box _ _ (by first | assumption | exact box_new _ _ _ | exact box_set _ _ _ | (simp only [box_new, box_set, box_row, box_new_ne, box_set_ne, ne_eq, not_false_eq_true, *] <;> rfl)) (by first | exact id | assumption | (intro hx; rcases hx with hx | hx <;> omega) | (intro hx; have hx2 : _ = _ := hx; omega))) rfl rfl
          | exact LVal.loadRo hD rfl rfl rfl rfl)
      | (guard_target = LVal _ ⟨_, (.call _), _, _, _, _⟩ _ _ _; first
          | exact LVal.len hD rfl rfl rfl rfl
          | exact LVal.lenStr hD rfl rfl rfl rfl)
      | (guard_target = LVal _ ⟨_, (.binOp _ _ _ _ _), _, _, _, _⟩ _ _ _; first
          | exact LVal.add64 rfl rfl rfl (by omega)
          | exact LVal.sub64 rfl rfl rfl (by omega)
          | exact LVal.addU64 rfl rfl rfl (by omega)
          | exact LVal.subU64 rfl rfl rfl (by omega)
          | exact LVal.mulU64 rfl rfl rfl (by omega)
          | exact LVal.remI rfl rfl rfl (by omega)
          | exact LVal.quoU64 rfl rfl rfl (by omega)
          | exact LVal.quo64 rfl rfl rfl (by omega)
          | exact LVal.mul64 rfl rfl rfl (by omega)
          | exact LVal.neqSame hD rfl rfl rfl
          | exact LVal.neqSameB hD rfl rfl rfl rfl rfl
          | exact LVal.eqStr rfl rfl rfl
          | exact LVal.neqStr rfl rfl rfl
          | exact LVal.eqNilP hD rfl rfl rfl rfl
          | exact LVal.neqNilP hD rfl rfl rfl rfl
          | exact LVal.eqAgg hD rfl rfl rfl rfl rfl (by assumption) rfl
          | exact LVal.neqAgg hD rfl rfl rfl rfl rfl (by assumption) rfl
          | exact LVal.binOp hD rfl rfl rfl rfl)
      | (guard_target = LVal _ ⟨_, (.convert _ _ _), _, _, _, _⟩ _ _ _; first
          | exact LVal.conv64 hD rfl rfl rfl rfl rfl (by omega)
          | exact LVal.convU64 hD rfl rfl rfl rfl rfl (by omega)
          | exact LVal.convInt hD rfl rfl rfl rfl rfl)
      | (guard_target = LVal _ ⟨_, (.unOp _ _ _), _, _, _, _⟩ _ _ _; first | exact LVal.unOp rfl rfl rfl)
      | (guard_target = LVal _ ⟨_, (.pick _ _ _), _, _, _, _⟩ _ _ _; first
          | exact LVal.pickOr rfl rfl rfl (by first | rfl | assumption | exact andL (by assumption)) (by intro hb; first | rfl | exact beqF hb | exact andI (by assumption) (beqF hb))
          | exact LVal.pickAnd rfl rfl rfl (by first | rfl | assumption | exact andL (by assumption)) (by intro hb; first | rfl | exact beqT hb | exact andI (by assumption) (beqT hb))
          | exact LVal.pick rfl rfl)
      | (guard_target = LVal _ ⟨_, (.extract _ _), _, _, _, _⟩ _ _ _; first | exact LVal.extract rfl rfl rfl)
      | (guard_target = LVal _ ⟨_, (.indexAddr _ _ _), _, _, _, _⟩ _ _ _; first
          | exact LVal.indexE hD rfl rfl rfl rfl rfl rfl (by first | assumption | omega | (simp at hw; omega)) rfl rfl
          | exact LVal.indexG hD rfl rfl rfl rfl rfl rfl rfl (by first | assumption | omega | (simp at hw; omega)) rfl
          | exact LVal.indexC hD rfl rfl rfl rfl rfl rfl (by decide) rfl rfl rfl)
      | (guard_target = LVal _ ⟨_, (.field _ _ _), _, _, _, _⟩ _ _ _; first | exact LVal.field hD rfl rfl rfl rfl rfl rfl rfl)
      | (guard_target = LVal _ ⟨_, (.buildSlice _ _ _), _, _, _, _⟩ _ _ _; first | exact LVal.buildSlice1 hD rfl rfl rfl rfl rfl rfl rfl rfl rfl rfl)
      | (guard_target = LVal _ ⟨_, (.build _ _), _, _, _, _⟩ _ _ _; first | exact LVal.build hD rfl rfl rfl rfl rfl rfl rfl)
      | (guard_target = LVal _ ⟨_, (.slice _ _ _ _ _), _, _, _, _⟩ _ _ _; first
          | exact LVal.takeMap hD rfl rfl rfl rfl rfl rfl (by first | assumption | omega | (simp at hw; omega)) rfl (fun _ _ => rfl)
          | exact LVal.dropMap hD rfl rfl rfl rfl rfl rfl (by first | assumption | omega | (simp at hw; omega)) rfl (fun _ _ => rfl)
          | exact LVal.cutMap hD rfl rfl rfl rfl rfl rfl rfl (by first | assumption | omega | (simp at hw; omega)) (by first | assumption | omega | (simp at hw; omega)) rfl (fun _ _ => rfl))) : LRl X G M n ops ord Q (o :: l) p T S := .when hg (fun S' hs e => .strip (hw e) (h S' hs e)) hd hn k

theorem LRl.pickA {X : Nat → Prop} {G : Ctx} {M : Option Nat} {n : Nat} {ops : List Oper} {ord : List Nat} {Q : (Nat → TV) → LS → Prop} {l : List Oper} {p : Nat} {T : Nat → TV} {S : LS} {o : Oper} {g : Bool} {r : TV} {d : Nat} (k : LRl X G M n ops ord Q l (p + 1) (upd T d (.when g r)) S)
    (hg : wantedT ops.toArray T o = some g := by rfl) (hd : o.dst = some d := by rfl) (hn : Nat.blt d n = true := by rfl)
    (h : ∀ S', S.leX X S' → g = true → LVal G o T S' r := by intro _ _ hw; first | exact LVal.pickOr rfl rfl rfl (by first | rfl | assumption | exact andL (by assumption)) (by intro hb; first | rfl | exact beqF hb | exact andI (by assumption) (beqF hb)) | exact LVal.pickAnd rfl rfl rfl (by first | rfl | assumption | exact andL (by assumption)) (by intro hb; first | rfl | exact beqT hb | exact andI (by assumption) (beqT hb))) : LRl X G M n ops ord Q (o :: l) p T S := .when hg h hd hn k

theorem LRl.valC {X : Nat → Prop} {G : Ctx} {M : Option Nat} {n : Nat} {ops : List Oper} {ord : List Nat} {Q : (Nat → TV) → LS → Prop} {l : List Oper} {p : Nat} {T : Nat → TV} {S : LS} {o : Oper} {r : TV} {d : Nat} (h : ∀ S', LVal G o T S' r) (k : LRl X G M n ops ord Q l (p + 1) (upd T d r) S)
    (hg : o.guard = none := by rfl) (hd : o.dst = some d := by rfl) (hn : Nat.blt d n = true := by rfl) : LRl X G M n ops ord Q (o :: l) p T S := .val0 (fun S' _ => h S') hg hd hn k

theorem LRl.whenC {X : Nat → Prop} {G : Ctx} {M : Option Nat} {n : Nat} {ops : List Oper} {ord : List Nat} {Q : (Nat → TV) → LS → Prop} {l : List Oper} {p : Nat} {T : Nat → TV} {S : LS} {o : Oper} {g : Bool} {r : TV} {d : Nat} (h : ∀ S', LVal G o (strip T) S' r) (k : LRl X G M n ops ord Q l (p + 1) (upd T d (.when g r)) S)
    (hg : wantedT ops.toArray T o = some g := by rfl) (hd : o.dst = some d := by rfl) (hn : Nat.blt d n = true := by rfl) (hw : g = true → allT (whens T o.op.operands.toList) := by intro hw; first | exact trivial | exact ⟨hw, trivial⟩ | exact ⟨hw, hw, trivial⟩ | exact ⟨hw, hw, hw, trivial⟩ | exact ⟨andL hw, trivial⟩ | exact ⟨andL hw, hw, trivial⟩ | exact ⟨hw, andL hw, trivial⟩) : LRl X G M n ops ord Q (o :: l) p T S := .whenS hg hw (fun S' _ => h S') hd hn k

end Go.Proofs.Ytkjbdldjfjkneaa.LF
