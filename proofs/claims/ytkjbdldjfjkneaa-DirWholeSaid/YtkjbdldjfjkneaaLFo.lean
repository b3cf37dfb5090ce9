/- Slots that hang on a guard; comparisons of strings, of structs; nil checks; maps; calls of function values. -/
import Derived.Test.YtkjbdldjfjkneaaLFn
import Derived.Test.YtkjbdldjfjkneaaLFl
import Derived.Laws.StructEq
import Derived.Maps.Keyed
set_option linter.unusedVariables false
set_option linter.unusedSimpArgs false
namespace Go.Proofs.Ytkjbdldjfjkneaa.LF
open Go.RowKit

def stripTV : TV → TV
  | .when _ r => r
  | x => x
def condTV : TV → Bool
  | .when b _ => b
  | _ => true
def strip (T : Nat → TV) : Nat → TV := fun i => stripTV (T i)

theorem RepT.strip {G : Ctx} {w : World} {K : Kept} {x : TV} {v : Value} (h : RepT G w K x v) (hc : condTV x = true) : RepT G w K (stripTV x) v := by
  cases h with
  | when b r v h1 h0 => exact h1 hc
  | one h => exact .one h
  | agg l vs hs h => exact .agg l vs hs h
  | tup l vs hs h => exact .tup l vs hs h
  | ro l b off c h hr => exact .ro l b off c h hr
  | any v => exact .any v

theorem lev_strip (T : Nat → TV) (x : Operand) : lev (strip T) x = stripTV (lev T x) := by
  cases x with
  | tmp t => rfl
  | const v =>
    simp only [lev]
    unfold constTV
    split
    · rename_i cs
      cases cs.toList.all Value.oneCell' <;> rfl
    · rfl
    · rfl
  | _ => rfl

def whens (T : Nat → TV) : List Operand → List Bool
  | [] => []
  | x :: l => match lev T x with
    | .when b _ => b :: whens T l
    | _ => whens T l
def allT : List Bool → Prop
  | [] => True
  | b :: l => b = true ∧ allT l

theorem whens_cond {T : Nat → TV} : ∀ {l : List Operand}, allT (whens T l) → ∀ x ∈ l, condTV (lev T x) = true := by
  intro l
  induction l with
  | nil => intro _ x hx; simp at hx
  | cons y l ih =>
    intro h x hx
    unfold whens at h
    rcases List.mem_cons.1 hx with rfl | hx
    · cases hq : lev T x with
      | when b r => rw [hq] at h; exact h.1
      | _ => rfl
    · cases hq : lev T y with
      | when b r => rw [hq] at h; exact ih h.2 x hx
      | _ => rw [hq] at h; exact ih h x hx

/-- An operation of a kind. -/
theorem LVal.is {G : Ctx} {o : Oper} {T : Nat → TV} {S : LS} {r : TV} (p : Op) (_h : o.op = p) (h : LVal G o T S r) : LVal G o T S r := h

/-- Under a guard, the slots are what they are if it holds. -/
theorem LVal.strip {G : Ctx} {o : Oper} {T : Nat → TV} {S : LS} {r : TV} (hw : allT (whens T o.op.operands.toList)) (h : LVal G o (strip T) S r) : LVal G o T S r :=
  fun K w a hi hr => h K w a hi fun x hx => by
    rw [lev_strip]
    exact (hr x hx).strip (whens_cond hw x (by simpa using hx))

theorem LVal.when {G : Ctx} {o : Oper} {T : Nat → TV} {S : LS} {r : TV} (h : LVal G o T S r) : LVal G o T S (.when true r) := fun K w a hi hr =>
  upon_mono (fun _ _ ⟨v, K', h1, h2, h3, h4⟩ => ⟨v, K', h1, .when true r v (fun _ => h2) (by simp), h3, h4⟩) (fun _ _ _ h => h) (h K w a hi hr)

theorem LOps.when {G : Ctx} {M : Option Nat} {n : Nat} {ops : Array Oper} {o : Oper} {l : List Oper} {Q : (Nat → TV) → LS → Prop} {T : Nat → TV} {S : LS} {g : Bool} {r : TV} {d : Nat} (hg : wantedT ops T o = some g)
    (h : g = true → LVal G o T S r) (hd : o.dst = some d) (hn : Nat.blt d n = true) (k : LOps G M n ops l Q (upd T d (.when g r)) S) : LOps G M n ops (o :: l) Q T S := by
  cases g with
  | true => exact .valG (h rfl).when hg hd hn k
  | false =>
    intro m K w a h1 h2 h3
    unfold wpListIn
    rw [if_neg (by rw [wanted_of h2 hg]; simp)]
    refine ⟨fun f _ => fen_fn M f, k m K w _ h1 ?_ (by rw [put_defers]; exact h3)⟩
    have := h2.put (dst := o.dst) (r := .when false r) (v := undef) (by rw [hd]; exact hn) (.when false r _ (by simp) (fun _ => rfl))
    rw [hd] at this ⊢
    exact this

theorem LOps.whenS {G : Ctx} {M : Option Nat} {n : Nat} {ops : Array Oper} {o : Oper} {l : List Oper} {Q : (Nat → TV) → LS → Prop} {T : Nat → TV} {S : LS} {g : Bool} {r : TV} {d : Nat} (hg : wantedT ops T o = some g)
    (hw : g = true → allT (whens T o.op.operands.toList)) (h : LVal G o (strip T) S r) (hd : o.dst = some d) (hn : Nat.blt d n = true) (k : LOps G M n ops l Q (upd T d (.when g r)) S) : LOps G M n ops (o :: l) Q T S :=
  .when hg (fun hg => .strip (hw hg) h) hd hn k

theorem LRl.val0 {X : Nat → Prop} {G : Ctx} {M : Option Nat} {n : Nat} {ops : List Oper} {ord : List Nat} {Q : (Nat → TV) → LS → Prop} {l : List Oper} {p : Nat} {T : Nat → TV} {S : LS} {o : Oper} {r : TV} {d : Nat} (h : ∀ S', S.leX X S' → LVal G o T S' r) (hg : o.guard = none) (hd : o.dst = some d) (hn : Nat.blt d n = true)
    (k : LRl X G M n ops ord Q l (p + 1) (upd T d r) S) : LRl X G M n ops ord Q (o :: l) p T S := .val h (by simp [wantedT, hg]) hd hn k
theorem LRl.whenS {X : Nat → Prop} {G : Ctx} {M : Option Nat} {n : Nat} {ops : List Oper} {ord : List Nat} {Q : (Nat → TV) → LS → Prop} {l : List Oper} {p : Nat} {T : Nat → TV} {S : LS} {o : Oper} {g : Bool} {r : TV} {d : Nat} (hg : wantedT ops.toArray T o = some g)
    (hw : g = true → allT (whens T o.op.operands.toList)) (h : ∀ S', S.leX X S' → LVal G o (strip T) S' r) (hd : o.dst = some d) (hn : Nat.blt d n = true)
    (k : LRl X G M n ops ord Q l (p + 1) (upd T d (.when g r)) S) : LRl X G M n ops ord Q (o :: l) p T S := .when hg (fun S' hs hg => .strip (hw hg) (h S' hs)) hd hn k

/-- 'or', 'and', whose second part hangs on the first. -/
theorem LVal.pickOr {G : Ctx} {o : Oper} {T : Nat → TV} {S : LS} {c y : Operand} {b r : Bool} (ho : o.op = .pick c (.const (.bool true)) y) (hc : stripTV (lev T c) = .one (.v (.bool b))) {g : Bool} (hy : lev T y = .when g (.one (.v (.bool r))))
    (wc : condTV (lev T c) = true) (wy : b = false → g = true) : LVal G o T S (.one (.v (.bool (b || r)))) :=
  .of_run fun K w ac hi hr => by
    have h1 := (hr c (by rw [ho]; simp [Op.operands])).strip wc
    rw [hc] at h1
    have h2 := hr y (by rw [ho]; simp [Op.operands])
    refine ⟨.bool (b || r), ?_, .raw rfl⟩
    have e2 : ac.eval (.const (.bool true)) = .bool true := rfl
    have e1 := h1.flat
    cases b with
    | true => simp [execOp, ho, e1, e2, asBool]
    | false =>
      rw [hy] at h2
      have h3 : RepT G w K (.one (.v (.bool r))) (ac.eval y) := h2.strip (wy rfl)
      simp [execOp, ho, e1, h3.flat, asBool]

theorem LVal.pickAnd {G : Ctx} {o : Oper} {T : Nat → TV} {S : LS} {c y : Operand} {b r : Bool} (ho : o.op = .pick c y (.const (.bool false))) (hc : stripTV (lev T c) = .one (.v (.bool b))) {g : Bool} (hy : lev T y = .when g (.one (.v (.bool r))))
    (wc : condTV (lev T c) = true) (wy : b = true → g = true) : LVal G o T S (.one (.v (.bool (b && r)))) :=
  .of_run fun K w ac hi hr => by
    have h1 := (hr c (by rw [ho]; simp [Op.operands])).strip wc
    rw [hc] at h1
    have h2 := hr y (by rw [ho]; simp [Op.operands])
    refine ⟨.bool (b && r), ?_, .raw rfl⟩
    have e2 : ac.eval (.const (.bool false)) = .bool false := rfl
    have e1 := h1.flat
    cases b with
    | false => simp [execOp, ho, e1, e2, asBool]
    | true =>
      rw [hy] at h2
      have h3 : RepT G w K (.one (.v (.bool r))) (ac.eval y) := h2.strip (wy rfl)
      simp [execOp, ho, e1, h3.flat, asBool]

theorem beqF {b : Bool} (h : b = false) : (b == false) = true := by rw [h]; rfl
theorem beqT {b : Bool} (h : b = true) : (b == true) = true := by rw [h]; rfl
theorem andI {a b : Bool} (h : a = true) (k : b = true) : (a && b) = true := by rw [h, k]; rfl
theorem andL {a b : Bool} (h : (a && b) = true) : a = true := (Bool.and_eq_true _ _ ▸ h).1

/-- An element, its value told behind the place's proof. -/
theorem LVal.indexE {G : Ctx} {D : Tab} (hD : TabOK G.P D) {o : Oper} {T : Nat → TV} {S : LS} {t e : TypeId} {x ix : Operand} {w : Own} {α : Type} {xs : List α} {f : α → List LV} {k : IntKind} {n : Nat} {i j : TI} {r : TV} (ho : o.op = .indexAddr t x ix)
    (hx : lev T x = .one (.sl w (xs.map f))) (hix : lev T ix = .one (.v (.int k (n : Int)))) (hi : D.get t = some i) (hd : i.desc = .slice e) (hj : D.get e = some j) (hn : n < xs.length) (hsz : (f xs[n]).length = j.size) (hr : TV.ro (f xs[n]) = r) :
    LVal G o T S r := hr ▸ .indexMap hD ho hx hix hi hd hj hn hsz

/-- An element under a guard. -/
theorem LVal.indexG {G : Ctx} {D : Tab} (hD : TabOK G.P D) {o : Oper} {T : Nat → TV} {S : LS} {t e : TypeId} {x ix : Operand} {w : Own} {α : Type} [Inhabited α] {xs : List α} {f : α → List LV} {k : IntKind} {n : Nat} {i j : TI} {r : TV} (ho : o.op = .indexAddr t x ix)
    (hx : lev T x = .one (.sl w (xs.map f))) (hix : lev T ix = .one (.v (.int k (n : Int)))) (hi : D.get t = some i) (hd : i.desc = .slice e) (hj : D.get e = some j) (hr : TV.ro (f (xs.getD n default)) = r) (hn : n < xs.length) (hsz : (f (xs.getD n default)).length = j.size) :
    LVal G o T S r := by
  have h : xs.getD n default = xs[n] := by simp [hn]
  rw [h] at hr hsz
  exact hr ▸ .indexMap hD ho hx hix hi hd hj hn hsz

/-- An element of a row that is written out, at a number of the text. -/
theorem LVal.indexC {G : Ctx} {D : Tab} (hD : TabOK G.P D) {o : Oper} {T : Nat → TV} {S : LS} {t e : TypeId} {x ix : Operand} {w : Own} {α : Type} {xs : List α} {f : α → List LV} {k : IntKind} {z : Int} {i j : TI} {a : α} {r : TV} (ho : o.op = .indexAddr t x ix)
    (hx : lev T x = .one (.sl w (xs.map f))) (hix : lev T ix = .one (.v (.int k z))) (hi : D.get t = some i) (hd : i.desc = .slice e) (hj : D.get e = some j) (hz : 0 ≤ z) (hn : xs[z.toNat]? = some a) (hsz : (f a).length = j.size) (hr : TV.ro (f a) = r) :
    LVal G o T S r := hr ▸ .indexLit hD ho hx hix (n := z.toNat) (by omega) hi hd hj hn hsz

/-- A pointer, or a function, that is one. -/
theorem LVal.nilCheck {G : Ctx} {o : Oper} {T : Nat → TV} {S : LS} {x : Operand} {a : Addr} (ho : o.op = .nilCheck x) (hx : lev T x = .one (.v (.pointer (some a)))) : LVal G o T S (.one (.v (.pointer (some a)))) :=
  .of_run fun K w ac hi hr => by
    have h1 := hr x (by rw [ho]; simp [Op.operands])
    rw [hx] at h1
    exact ⟨_, by simp [execOp, ho, h1.flat], .raw rfl⟩

/-- Two strings. -/
theorem toList_eq {s t : ByteArray} : (s.toList == t.toList) = decide (s = t) := by
  by_cases h : s = t
  · subst h; simp
  · have : ¬ s.toList = t.toList := fun e => h (by
      rw [ByteArray.toList_eq, ByteArray.toList_eq] at e
      obtain ⟨⟨x⟩⟩ := s
      obtain ⟨⟨y⟩⟩ := t
      simp at e
      subst e; rfl)
    simp [h, this]

theorem LVal.eqStr {G : Ctx} {o : Oper} {T : Nat → TV} {S : LS} {t u : TypeId} {x y : Operand} {a b : ByteArray} (ho : o.op = .binOp .eql t x y u) (hx : lev T x = .one (.v (.string a))) (hy : lev T y = .one (.v (.string b))) :
    LVal G o T S (.one (.v (.bool (decide (a = b))))) :=
  .of_run fun K w ac hi hr => by
    have h1 := hr x (by rw [ho]; simp [Op.operands])
    have h2 := hr y (by rw [ho]; simp [Op.operands])
    rw [hx] at h1
    rw [hy] at h2
    refine ⟨_, ?_, .raw rfl⟩
    have e := binOp_str (P := G.P) (w := w) (t := t) (op := .eql) (x := a) (y := b) (v := .bool (a.toList == b.toList)) rfl
    simp only [execOp, ho, h1.flat, h2.flat, Sem.run_bind, eqGuard_flat (a := .string a) (by simp) (by simp), Result.andThen_ok, e, Sem.run_pure, toList_eq]

theorem LVal.neqStr {G : Ctx} {o : Oper} {T : Nat → TV} {S : LS} {t u : TypeId} {x y : Operand} {a b : ByteArray} (ho : o.op = .binOp .neq t x y u) (hx : lev T x = .one (.v (.string a))) (hy : lev T y = .one (.v (.string b))) :
    LVal G o T S (.one (.v (.bool (!decide (a = b))))) :=
  .of_run fun K w ac hi hr => by
    have h1 := hr x (by rw [ho]; simp [Op.operands])
    have h2 := hr y (by rw [ho]; simp [Op.operands])
    rw [hx] at h1
    rw [hy] at h2
    refine ⟨_, ?_, .raw rfl⟩
    have e := binOp_str (P := G.P) (w := w) (t := t) (op := .neq) (x := a) (y := b) (v := .bool !(a.toList == b.toList)) rfl
    simp only [execOp, ho, h1.flat, h2.flat, Sem.run_bind, eqGuard_flat (a := .string a) (by simp) (by simp), Result.andThen_ok, e, Sem.run_pure, toList_eq]

/-- Two plain cells of a type. -/
def eqPlain (d : TypeDesc) (a b : Value) : Option Bool :=
  match d, a, b with
  | .bool, .bool x, .bool y => some (x == y)
  | .int _, .int k x, .int k' y => bif k == k' then some (x == y) else none
  | .string, .string x, .string y => some (decide (x = y))
  | _, _, _ => none

/-- Two values of a type, by their cells. -/
def eqCells (D : Tab) : Nat → TypeId → List LV → List LV → Option Bool
  | 0, _, _, _ => none
  | n + 1, t, l1, l2 => match D.get t with
    | none => none
    | some i => match i.desc with
      | .struct fs => fs.toList.foldr (fun f r => match D.get f.type with
        | none => none
        | some j => match eqCells D n f.type ((l1.drop f.offset).take j.size) ((l2.drop f.offset).take j.size), r with
          | some b, some c => some (b && c)
          | _, _ => none) (some true)
      | d => match l1, l2 with
        | [.v a], [.v b] => eqPlain d a b
        | _, _ => none

/-- A type whose values are compared part by part. -/
def eqOK (P : Program) (D : Tab) : Nat → TypeId → Bool
  | 0, _ => false
  | n + 1, t => match D.get t with
    | none => false
    | some i => match i.desc with
      | .struct fs => !P.stoodInHeld t && fs.toList.all fun f => f.name != "_" && eqOK P D n f.type
      | .bool => true
      | .int _ => true
      | .string => true
      | _ => false

structure EqTy (P : Program) (D : Tab) (t : TypeId) : Prop where
  ok : eqOK P D 4 t = true
  gd : P.eqGuardType P.depth t = false

theorem eqPlain_run {P : Program} {w : World} {t : TypeId} {i : TI} (h : TIok P t i) {a b : Value} {c : Bool} (he : eqPlain i.desc a b = some c) (n : Nat) : (Op.equalIn (n + 1) t a b).run P w = .ok c w := by
  have hu := h.und
  unfold eqPlain at he
  split at he
  · rename_i hd; rw [hd] at hu
    obtain rfl := Option.some.inj he
    exact run_equalIn_bool' w n t _ _ hu
  · rename_i q k x k' y hd; rw [hd] at hu
    cases hk : k == k' with
    | false => rw [hk] at he; cases he
    | true =>
      rw [hk] at he
      obtain rfl : k = k' := by simpa using hk
      obtain rfl := Option.some.inj he
      exact run_equalIn_int w n t _ _ _ _ hu
  · rename_i hd; rw [hd] at hu
    obtain rfl := Option.some.inj he
    rw [← toList_eq]
    exact run_equalIn_string w n t _ _ hu
  · cases he


/-- A value's cells, plain ones. -/
def RepC (i : TI) (l : List LV) (v : Value) : Prop :=
  (i.isAgg = true → ∃ vs : Array Value, v = .agg vs ∧ vs.size = l.length ∧ ∀ (j : Nat) x, l[j]? = some (.v x) → vs[j]? = some x) ∧ (i.isAgg = false → ∀ x, l = [.v x] → v = x)

theorem eqFields_run {P : Program} {D : Tab} (hD : TabOK P D) {w : World} {n m : Nat} (ih : ∀ (t : TypeId) (i : TI) (l1 l2 : List LV) (v1 v2 : Value) (b : Bool), D.get t = some i → RepC i l1 v1 → RepC i l2 v2 → eqCells D n t l1 l2 = some b → eqOK P D n t = true → (Op.equalIn (n + m) t v1 v2).run P w = .ok b w)
    {xs ys : Array Value} {l1 l2 : List LV} (hx1 : xs.size = l1.length) (hx2 : ∀ (j : Nat) x, l1[j]? = some (.v x) → xs[j]? = some x) (hy1 : ys.size = l2.length) (hy2 : ∀ (j : Nat) x, l2[j]? = some (.v x) → ys[j]? = some x) :
    ∀ (fs : List Field) (b : Bool), (fs.all fun f => f.name != "_" && eqOK P D n f.type) = true → fs.foldr (fun f r => match D.get f.type with
        | none => none
        | some j => match eqCells D n f.type ((l1.drop f.offset).take j.size) ((l2.drop f.offset).take j.size), r with
          | some b, some c => some (b && c)
          | _, _ => none) (some true) = some b → (Op.eqFields (n + m) xs ys fs).run P w = .ok b w := by
  have hpart : ∀ {zs : Array Value} {l : List LV} (_ : zs.size = l.length) (_ : ∀ (j : Nat) x, l[j]? = some (.v x) → zs[j]? = some x) {t : TypeId} {j : TI} {off : Nat} (_ : TIok P t j), (j.isAgg = true ∨ ∃ x, (l.drop off).take j.size = [.v x]) →
      ∃ v, (part t zs off).run P w = .ok v w ∧ RepC j ((l.drop off).take j.size) v := by
    intro zs l hz1 hz2 t j off hj hc
    cases ha : j.isAgg with
    | true =>
      refine ⟨_, run_part_agg hj ha zs off, ⟨fun _ => ⟨_, rfl, ?_, fun q x hq => ?_⟩, fun h => by rw [ha] at h; cases h⟩⟩
      · simp only [Array.size_extract, List.length_take, List.length_drop, hz1]; omega
      · rw [List.getElem?_take] at hq
        split at hq
        · rename_i hlt
          rw [List.getElem?_drop] at hq
          have h1 := hz2 _ x hq
          have h2 := (Array.getElem?_eq_some_iff.1 h1).1
          rw [Array.getElem?_extract]
          rw [if_pos (by omega)]
          exact h1
        · cases hq
    | false =>
      rcases hc with hc | ⟨x, hc⟩
      · rw [ha] at hc; cases hc
      · have h0 : l[off]? = some (.v x) := by
          have : ((l.drop off).take j.size)[0]? = some (.v x) := by rw [hc]; rfl
          rw [List.getElem?_take] at this
          split at this
          · simpa using this
          · cases this
        refine ⟨x, run_part_one hj ha zs off x (hz2 _ _ h0), ⟨fun h => (by rw [ha] at h; cases h), fun _ y hy => ?_⟩⟩
        rw [hc] at hy
        simpa using hy
  have hshape : ∀ {t : TypeId} {j : TI} {a1 a2 : List LV} {b : Bool}, D.get t = some j → eqCells D n t a1 a2 = some b → (j.isAgg = true ∨ ∃ x, a1 = [.v x]) ∧ (j.isAgg = true ∨ ∃ x, a2 = [.v x]) := by
    intro t j a1 a2 b hj he
    cases n with
    | zero => simp [eqCells] at he
    | succ n =>
      unfold eqCells at he
      rw [hj] at he
      simp only at he
      split at he
      · rename_i fs hd
        have : j.isAgg = true := by simp [TI.isAgg, hd]
        exact ⟨.inl this, .inl this⟩
      · split at he
        · exact ⟨.inr ⟨_, rfl⟩, .inr ⟨_, rfl⟩⟩
        · cases he
  intro fs
  induction fs with
  | nil => intro b _ h; obtain rfl := Option.some.inj h; simp [Op.eqFields]
  | cons f fs ihf =>
    intro b hall h
    rw [List.all_cons, Bool.and_eq_true, Bool.and_eq_true] at hall
    obtain ⟨⟨hn, hok⟩, hall⟩ := hall
    rw [List.foldr_cons] at h
    cases hj : D.get f.type with
    | none => rw [hj] at h; cases h
    | some j =>
      rw [hj] at h
      simp only at h
      split at h
      · rename_i b1 c he hr
        obtain rfl := Option.some.inj h
        obtain ⟨s1, s2⟩ := hshape hj he
        obtain ⟨v1, p1, r1⟩ := hpart hx1 hx2 (off := f.offset) (hD.get hj) s1
        obtain ⟨v2, p2, r2⟩ := hpart hy1 hy2 (off := f.offset) (hD.get hj) s2
        have e1 := ih f.type j _ _ v1 v2 b1 hj r1 r2 he hok
        have e2 := ihf c hall hr
        have hne : f.name ≠ "_" := by simpa using hn
        simp only [Op.eqFields, hne, ne_eq, not_false_eq_true, if_true, Sem.run_bind, p1, p2, e1, Result.andThen_ok]
        cases b1 with
        | true => simpa using e2
        | false => simp
      · cases h

theorem eqCells_run {P : Program} {D : Tab} (hD : TabOK P D) {w : World} {m : Nat} : ∀ (n : Nat) (t : TypeId) (i : TI) (l1 l2 : List LV) (v1 v2 : Value) (b : Bool), D.get t = some i → RepC i l1 v1 → RepC i l2 v2 → eqCells D n t l1 l2 = some b → eqOK P D n t = true → (Op.equalIn (n + m) t v1 v2).run P w = .ok b w := by
  intro n
  induction n with
  | zero => intro t i l1 l2 v1 v2 b _ _ _ h; simp [eqCells] at h
  | succ n ih =>
    intro t i l1 l2 v1 v2 b hi r1 r2 he hok
    rw [Nat.succ_add]
    have hu := (hD.get hi).und
    unfold eqCells at he
    unfold eqOK at hok
    rw [hi] at he hok
    simp only at he hok
    split at he
    · rename_i fs hd
      rw [hd] at hok hu
      simp only [Bool.and_eq_true] at hok
      obtain ⟨h1, h2⟩ := hok
      have ha : i.isAgg = true := by simp [TI.isAgg, hd]
      obtain ⟨xs, rfl, a1, a2⟩ := r1.1 ha
      obtain ⟨ys, rfl, b1, b2⟩ := r2.1 ha
      have hf : P.fieldsOf t = fs := by simp [Program.fieldsOf, hu]
      rw [run_equalIn_struct w _ t xs ys (by rw [hf]; exact hu) (by simpa using h1), hf]
      exact eqFields_run hD ih a1 a2 b1 b2 fs.toList b h2 he
    · rename_i hns
      split at he
      · rename_i a c
        have ha : i.isAgg = false := by
          cases hq : i.desc <;> rw [hq] at he <;> first | rfl | (simp [TI.isAgg, hq]; done) | (simp [eqPlain] at he)
        obtain rfl := r1.2 ha _ rfl
        obtain rfl := r2.2 ha _ rfl
        exact eqPlain_run (hD.get hi) he _
      · cases he

theorem RepC.of {G : Ctx} {w : World} {K : Kept} {i : TI} {l : List LV} {v : Value} (ha : i.isAgg = true) (h : RepT G w K (.agg l) v) : RepC i l v := by
  obtain ⟨vs, rfl, h1, h2⟩ := h.agg_inv
  refine ⟨fun _ => ⟨vs, rfl, h1, fun j x hj => ?_⟩, fun h => by rw [ha] at h; cases h⟩
  have hlt : j < vs.size := by rw [h1]; exact (List.getElem?_eq_some_iff.1 hj).1
  have := h2 j _ vs[j] hj (Array.getElem?_eq_getElem hlt)
  rw [Array.getElem?_eq_getElem hlt]
  generalize vs[j] = u at this
  cases this
  rfl

/-- Two structs. -/
theorem LVal.eqAgg {G : Ctx} {D : Tab} (hD : TabOK G.P D) {o : Oper} {T : Nat → TV} {S : LS} {t u : TypeId} {x y : Operand} {l1 l2 : List LV} {i : TI} {b : Bool} (ho : o.op = .binOp .eql t x y u) (hx : lev T x = .agg l1) (hy : lev T y = .agg l2)
    (hi : D.get t = some i) (ha : i.isAgg = true) (hok : EqTy G.P D t) (he : eqCells D 4 t l1 l2 = some b) : LVal G o T S (.one (.v (.bool b))) :=
  .of_run fun K w ac _ hr => by
    have h1 := hr x (by rw [ho]; simp [Op.operands])
    have h2 := hr y (by rw [ho]; simp [Op.operands])
    rw [hx] at h1
    rw [hy] at h2
    have r1 := RepC.of ha h1
    have r2 := RepC.of ha h2
    obtain ⟨xs, e1, _⟩ := h1.agg_inv
    obtain ⟨ys, e2, _⟩ := h2.agg_inv
    rw [e1] at r1
    rw [e2] at r2
    have := eqCells_run hD (w := w) (m := 9996) 4 t i l1 l2 _ _ b hi r1 r2 he hok.ok
    refine ⟨.bool b, ?_, .raw rfl⟩
    simp only [execOp, ho, e1, e2, Sem.run_bind, run_eqGuard_agg w .eql t x y xs ys hok.gd, Result.andThen_ok, run_eql_struct, this, Sem.run_pure]

theorem LVal.neqAgg {G : Ctx} {D : Tab} (hD : TabOK G.P D) {o : Oper} {T : Nat → TV} {S : LS} {t u : TypeId} {x y : Operand} {l1 l2 : List LV} {i : TI} {b : Bool} (ho : o.op = .binOp .neq t x y u) (hx : lev T x = .agg l1) (hy : lev T y = .agg l2)
    (hi : D.get t = some i) (ha : i.isAgg = true) (hok : EqTy G.P D t) (he : eqCells D 4 t l1 l2 = some b) : LVal G o T S (.one (.v (.bool (!b)))) :=
  .of_run fun K w ac _ hr => by
    have h1 := hr x (by rw [ho]; simp [Op.operands])
    have h2 := hr y (by rw [ho]; simp [Op.operands])
    rw [hx] at h1
    rw [hy] at h2
    have r1 := RepC.of ha h1
    have r2 := RepC.of ha h2
    obtain ⟨xs, e1, _⟩ := h1.agg_inv
    obtain ⟨ys, e2, _⟩ := h2.agg_inv
    rw [e1] at r1
    rw [e2] at r2
    have := eqCells_run hD (w := w) (m := 9996) 4 t i l1 l2 _ _ b hi r1 r2 he hok.ok
    refine ⟨.bool (!b), ?_, .raw rfl⟩
    simp only [execOp, ho, e1, e2, Sem.run_bind, run_eqGuard_agg w .neq t x y xs ys hok.gd, Result.andThen_ok, run_neq_struct, this, Sem.run_pure]

end Go.Proofs.Ytkjbdldjfjkneaa.LF
