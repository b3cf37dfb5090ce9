/- What a step leaves alone: the blocks outside of a footprint. -/
import Derived.Test.YtkjbdldjfjkneaaLFq
set_option linter.unusedVariables false
set_option linter.unusedSimpArgs false
namespace Go.Proofs.Ytkjbdldjfjkneaa.LF
open Go.RowKit

/-- From one logical memory to the next, all but the blocks of F stays. -/
structure LS.only (F : Nat → Prop) (S S' : LS) : Prop where
  box : ∀ b x, ¬ F b → S.box b = some x → S'.box b = some x
  row : ∀ b x, ¬ F b → S.row b = some x → S'.row b = some x
  obj : ∀ b x, ¬ F b → S.obj b = some x → S'.obj b = some x
  top : S.top ≤ S'.top

theorem LS.only.refl (F : Nat → Prop) (S : LS) : S.only F S := ⟨fun _ _ _ h => h, fun _ _ _ h => h, fun _ _ _ h => h, Nat.le_refl _⟩
theorem LS.only.trans {F : Nat → Prop} {S S' S'' : LS} (h : S.only F S') (k : S'.only F S'') : S.only F S'' :=
  ⟨fun b x hb hx => k.box b x hb (h.box b x hb hx), fun b x hb hx => k.row b x hb (h.row b x hb hx), fun b x hb hx => k.obj b x hb (h.obj b x hb hx), Nat.le_trans h.top k.top⟩
theorem LS.only.mono {F F' : Nat → Prop} {S S' : LS} (h : S.only F S') (hf : ∀ b, F b → F' b) : S.only F' S' :=
  ⟨fun b x hb => h.box b x fun hF => hb (hf b hF), fun b x hb => h.row b x fun hF => hb (hf b hF), fun b x hb => h.obj b x fun hF => hb (hf b hF), h.top⟩
theorem LS.le.only {S S' : LS} (h : S.le S') (F : Nat → Prop) : S.only F S' := ⟨fun b x _ => h.box b x, fun b x _ => h.row b x, fun b x _ => h.obj b x, h.top⟩
theorem LS.only.le {S S' : LS} (h : S.only (fun _ => False) S') : S.le S' := ⟨fun b x => h.box b x id, fun b x => h.row b x id, fun b x => h.obj b x id, h.top⟩
theorem LS.only.newBox {S : LS} {b : Nat} (hb : S.fresh b) (F : Nat → Prop) (cs : List LV) : S.only F (S.newBox b cs) := (LS.le.newBox (.refl _) hb cs).only F
theorem LS.only.newRow {S : LS} {b : Nat} (hb : S.fresh b) (F : Nat → Prop) (e : TypeId) (n : Nat) : S.only F (S.newRow b e n) := (LS.le.newRow (.refl _) hb e n).only F
theorem LS.only.setBox {S : LS} {F : Nat → Prop} {b : Nat} (hb : F b) (cs : List LV) : S.only F (S.setBox b cs) where
  box := fun b' x h hx => (box_set_ne S cs (fun e => h (by rw [e]; exact hb))).trans hx
  row := fun b' x _ hx => hx
  obj := fun b' x _ hx => hx
  top := Nat.le_refl _
theorem LS.only.setNew {S S' : LS} {F : Nat → Prop} {b : Nat} (h : S.only F S') (hb : S.box b = Option.none) (cs : List LV) : S.only F (S'.setBox b cs) where
  box := fun b' x hf hx => (box_set_ne S' cs (fun e => by rw [e, hb] at hx; cases hx)).trans (h.box b' x hf hx)
  row := h.row
  obj := h.obj
  top := h.top
theorem LS.only.setObj {S : LS} {F : Nat → Prop} {b : Nat} (hb : F b) (o : Obj) : S.only F (S.setObj b o) where
  box := fun b' x _ hx => hx
  row := fun b' x _ hx => hx
  obj := fun b' x h hx => by
    have hne : b' ≠ b := fun e => h (by rw [e]; exact hb)
    have : Nat.beq b' b = false := by cases hq : Nat.beq b' b with
      | false => rfl
      | true => exact absurd (Nat.eq_of_beq_eq_true hq) hne
    simp only [LS.setObj, this, cond_false]
    exact hx
  top := Nat.le_max_left _ _
theorem LS.only.upto {S S' : LS} {o : Own} {F : Nat → Prop} (h : S.upto o S') (ho : ∀ b, o = .own b → F b) : S.only F S' :=
  ⟨fun b x _ => h.box b x, fun b x hb => h.row b x fun e => hb (ho b e), fun b x _ => h.obj b x, h.top⟩
theorem LS.only.newObj {S : LS} {b : Nat} (hb : S.fresh b) (F : Nat → Prop) (o : Obj) : S.only F (S.setObj b o) where
  box := fun b' x _ hx => hx
  row := fun b' x _ hx => hx
  obj := fun b' x h hx => by
    have hne : b' ≠ b := fun e => by rw [e, hb.obj] at hx; cases hx
    have : Nat.beq b' b = false := by cases hq : Nat.beq b' b with
      | false => rfl
      | true => exact absurd (Nat.eq_of_beq_eq_true hq) hne
    simp only [LS.setObj, this, cond_false]
    exact hx
  top := Nat.le_max_left _ _

/-- Whose row it is lies in F. -/
def OwnIn (F : Nat → Prop) (o : Own) : Prop := ∀ b, o = .own b → F b
theorem Owned.only {S S' : LS} {F : Nat → Prop} {o : Own} {e : TypeId} {n : Nat} (h : Owned S e n o) (k : S.only F S') (ho : ∀ b, o = .own b → ¬ F b) : Owned S' e n o := by
  cases o with
  | nil => exact h
  | sh => exact h
  | own b => exact k.row b _ (ho b rfl) h
theorem MapAt.only {S S' : LS} {F : Nat → Prop} {m : Nat} {al : List (Int × Value)} (h : MapAt S m al) (k : S.only F S') (hm : ¬ F m) : MapAt S' m al := by
  obtain ⟨es, c, h1, h2⟩ := h
  exact ⟨es, c, k.obj m _ hm h1, h2⟩
/-- What is new in a memory. -/
def newIn (S S' : LS) (b : Nat) : Prop := S.top ≤ b ∧ b < S'.top
theorem row_top {S : LS} {b : Nat} {e : TypeId} {n : Nat} (h : S.row b = some (e, n)) (hw : S.wf) : b < S.top := by
  rcases Nat.lt_or_ge b S.top with hlt | hge
  · exact hlt
  · rw [hw.row b hge] at h; cases h
theorem LWp.wf {G : Ctx} {M : Option Nat} {n : Nat} {c : Code} {Q : Exit → (Nat → TV) → LS → Prop} {T : Nat → TV} {S : LS} (h : S.wf → LWp G M n c Q T S) : LWp G M n c Q T S := fun m K w a h1 h2 h3 => h h1.wf m K w a h1 h2 h3
theorem LOps.wf {G : Ctx} {M : Option Nat} {n : Nat} {ops : Array Oper} {l : List Oper} {Q : (Nat → TV) → LS → Prop} {T : Nat → TV} {S : LS} (h : S.wf → LOps G M n ops l Q T S) : LOps G M n ops l Q T S := fun m K w a h1 h2 h3 => h h1.wf m K w a h1 h2 h3
theorem LCalls.wf {G : Ctx} {f : FuncId} {args : List TV} {Q : TV → LS → Prop} {S : LS} (h : S.wf → LCalls G f args Q S) : LCalls G f args Q S := fun K w vals h1 h2 => h h1.wf K w vals h1 h2
/-- Who was there lies below the top. -/
theorem own_lt {S : LS} {o : Own} {e : TypeId} {n : Nat} (h : Owned S e n o) (hw : S.wf) : ∀ b, o = .own b → b < S.top := fun b hb => by
  subst hb; exact row_top h hw
theorem box_lt {S : LS} {b : Nat} {cs : List LV} (h : S.box b = some cs) (hw : S.wf) : b < S.top := by
  rcases Nat.lt_or_ge b S.top with hlt | hge
  · exact hlt
  · rw [hw.box b hge] at h; cases h
/-- A logical memory that a memory stands behind. -/
def LS.sound (S : LS) : Prop := ∃ G K w, Inv G S K w
theorem LS.sound.wf {S : LS} (h : S.sound) : S.wf := by obtain ⟨G, K, w, h⟩ := h; exact h.wf
theorem LS.sound.boxObj {S : LS} (h : S.sound) {b m : Nat} {cs : List LV} {o : Obj} (hb : S.box b = some cs) (hm : S.obj m = some o) : b ≠ m := by
  obtain ⟨G, K, w, h⟩ := h
  rintro rfl
  obtain ⟨_, _, c, T, h1, _⟩ := h.box b cs hb
  obtain ⟨_, _, h2, h3, _⟩ := h.obj b o hm
  rw [h1] at h2
  obtain rfl := Option.some.inj h2
  cases h3
theorem LS.sound.rowObj {S : LS} (h : S.sound) {b m : Nat} {x : TypeId × Nat} {o : Obj} (hb : S.row b = some x) (hm : S.obj m = some o) : b ≠ m := by
  obtain ⟨G, K, w, h⟩ := h
  rintro rfl
  obtain ⟨_, _, _, c, h1, _⟩ := h.row b x.1 x.2 hb
  obtain ⟨_, _, h2, h3, _⟩ := h.obj b o hm
  rw [h1] at h2
  obtain rfl := Option.some.inj h2
  cases h3
theorem LS.sound.boxRow {S : LS} (h : S.sound) {b m : Nat} {cs : List LV} {x : TypeId × Nat} (hb : S.box b = some cs) (hm : S.row m = some x) : b ≠ m := by
  obtain ⟨G, K, w, h⟩ := h
  rintro rfl
  obtain ⟨_, _, h1, _⟩ := h.row b x.1 x.2 hm
  rw [hb] at h1
  cases h1
theorem LWp.sound {G : Ctx} {M : Option Nat} {n : Nat} {c : Code} {Q : Exit → (Nat → TV) → LS → Prop} {T : Nat → TV} {S : LS} (h : S.sound → LWp G M n c Q T S) : LWp G M n c Q T S := fun m K w a h1 h2 h3 => h ⟨G, K, w, h1⟩ m K w a h1 h2 h3
theorem LOps.sound {G : Ctx} {M : Option Nat} {n : Nat} {ops : Array Oper} {l : List Oper} {Q : (Nat → TV) → LS → Prop} {T : Nat → TV} {S : LS} (h : S.sound → LOps G M n ops l Q T S) : LOps G M n ops l Q T S := fun m K w a h1 h2 h3 => h ⟨G, K, w, h1⟩ m K w a h1 h2 h3
theorem LCalls.sound {G : Ctx} {f : FuncId} {args : List TV} {Q : TV → LS → Prop} {S : LS} (h : S.sound → LCalls G f args Q S) : LCalls G f args Q S := fun K w vals h1 h2 => h ⟨G, K, w, h1⟩ K w vals h1 h2
theorem MapAt.neBox {S : LS} (h : S.sound) {b m : Nat} {cs : List LV} {al : List (Int × Value)} (hb : S.box b = some cs) (hm : MapAt S m al) : b ≠ m := by
  obtain ⟨_, _, h1, _⟩ := hm; exact h.boxObj hb h1
theorem MapAt.neOwn {S : LS} (h : S.sound) {o : Own} {m n : Nat} {e : TypeId} {al : List (Int × Value)} (ho : Owned S e n o) (hm : MapAt S m al) : ∀ b, o = .own b → b ≠ m := fun b hb => by
  subst hb; obtain ⟨_, _, h1, _⟩ := hm; exact h.rowObj ho h1
theorem LS.le.newOnly {S S1 S2 : LS} {F : Nat → Prop} (h : S.le S1) (k : S1.only F S2) (hF : ∀ x, F x → S.top ≤ x) (hw : S.wf) : S.le S2 := by
  have hb : ∀ b x, S.box b = some x → ¬ F b := fun b x hx hf => by rw [hw.box b (hF b hf)] at hx; cases hx
  have hr : ∀ b x, S.row b = some x → ¬ F b := fun b x hx hf => by rw [hw.row b (hF b hf)] at hx; cases hx
  have ho : ∀ b x, S.obj b = some x → ¬ F b := fun b x hx hf => by rw [hw.obj b (hF b hf)] at hx; cases hx
  exact ⟨fun b x hx => k.box b x (hb b x hx) (h.box b x hx), fun b x hx => k.row b x (hr b x hx) (h.row b x hx), fun b x hx => k.obj b x (ho b x hx) (h.obj b x hx), Nat.le_trans h.top k.top⟩
/-- A value told in another way. -/
theorem LVal.to {G : Ctx} {o : Oper} {T : Nat → TV} {S : LS} {r r' : TV} (h : LVal G o T S r) (e : r = r') : LVal G o T S r' := e ▸ h
/-- Forgetting whose the value's slices are. -/
theorem LVal.sh {G : Ctx} {o : Oper} {T : Nat → TV} {S : LS} {r : TV} (h : LVal G o T S r) : LVal G o T S (shTV r) := fun K w a hi hr =>
  upon_mono (fun _ _ ⟨v, K', h1, h2, h3, h4⟩ => ⟨v, K', h1, h2.shTV, h3, h4⟩) (fun _ _ _ h => h) (h K w a hi hr)
theorem LVal.shTo {G : Ctx} {o : Oper} {T : Nat → TV} {S : LS} {r r' : TV} (h : LVal G o T S r) (e : shTV r = r') : LVal G o T S r' := e ▸ h.sh
theorem LS.le.none {S S' : LS} (h : S.le S') {b : Nat} (hb : S'.fresh b) : S.box b = Option.none := by
  cases hq : S.box b with
  | none => rfl
  | some x => have := h.box _ _ hq; rw [hb.box] at this; cases this

/-- Forgetting whose a block's slices are. -/
theorem Inv.shBox {G : Ctx} {S : LS} {K : Kept} {w : World} (h : Inv G S K w) {b : Nat} {cs : List LV} (hb : S.box b = some cs) : Inv G (S.setBox b (cs.map shLV)) K w where
  below := h.below
  base := h.base
  live := h.live
  box := fun b' cs' hb' => by
    by_cases e : b' = b
    · subst e
      rw [box_set] at hb'
      obtain rfl := Option.some.inj hb'
      obtain ⟨h1, h2, c, T, h3, h4, h5, h6⟩ := h.box b' cs hb
      refine ⟨h1, h2, c, T, h3, by simpa using h4, fun j x v hj hv => ?_, h6⟩
      rw [List.getElem?_map] at hj
      cases hq : cs[j]? with
      | none => rw [hq] at hj; cases hj
      | some y =>
        rw [hq] at hj
        obtain rfl : LF.shLV y = x := by simpa using hj
        exact (h5 j y v hq hv).shLV
    · rw [box_set_ne _ _ e] at hb'
      exact h.box b' cs' hb'
  row := fun b' T n hr => by
    obtain ⟨h1, h2, h3, h4⟩ := h.row b' T n hr
    refine ⟨h1, h2, ?_, h4⟩
    have e : b' ≠ b := fun e => by rw [e, hb] at h3; cases h3
    rw [box_set_ne _ _ e]; exact h3
  obj := h.obj
  top := h.top
  since := h.since
theorem LOps.shBox {G : Ctx} {M : Option Nat} {n : Nat} {ops : Array Oper} {l : List Oper} {Q : (Nat → TV) → LS → Prop} {T : Nat → TV} {S : LS} {b : Nat} {cs : List LV} (hb : S.box b = some cs) (k : LOps G M n ops l Q T (S.setBox b (cs.map shLV))) : LOps G M n ops l Q T S :=
  fun m K w a h1 h2 h3 => k m K w a (h1.shBox hb) h2 h3
theorem LWp.shBox {G : Ctx} {M : Option Nat} {n : Nat} {c : Code} {Q : Exit → (Nat → TV) → LS → Prop} {T : Nat → TV} {S : LS} {b : Nat} {cs : List LV} (hb : S.box b = some cs) (k : LWp G M n c Q T (S.setBox b (cs.map shLV))) : LWp G M n c Q T S :=
  fun m K w a h1 h2 h3 => k m K w a (h1.shBox hb) h2 h3
theorem LDo.callF {G : Ctx} {o : Oper} {T : Nat → TV} {S : LS} {f : FuncId} {fn : Func} {xs : List Operand} {ts : Array TypeId} {args : List TV} {R : TV → LS → Prop}
    (hc : LCalls G f args R S) (hf : G.P.funcs[f]? = some fn) (ho : o.op = .call { callee := .value (.func f), args := xs.toArray, argTypes := ts } := by rfl) (hx : xs.map (fun x => shTV (lev T x)) = args := by rfl) (hb : fn.body.isSome = true := by rfl) (hn : fn.name ≠ "runtime.NumGoroutine" := by decide) :
    LDo G o T S R := .call ho hx hf hb hn hc
end Go.Proofs.Ytkjbdldjfjkneaa.LF
