/- The frame's operations that only read: what each gives. -/
import Derived.Test.YtkjbdldjfjkneaaLFb
import Derived.Laws.StructEq
set_option linter.unusedVariables false
set_option linter.unusedSimpArgs false
namespace Go.Proofs.Ytkjbdldjfjkneaa.LF
open Go.RowKit

/-- What is known of a type. -/
structure TI where
  desc : TypeDesc
  size : Nat
  bytes : Nat
  zero : Value

abbrev Tab := List (TypeId × TI)
def Tab.get : Tab → TypeId → Option TI
  | [], _ => none
  | (u, i) :: l, t => bif Nat.beq t u then some i else Tab.get l t

structure TIok (P : Program) (t : TypeId) (i : TI) : Prop where
  und : P.underlying t = some i.desc
  info : ∃ j, P.info? t = some j ∧ j.size = i.size ∧ j.bytes = i.bytes ∧ j.zero = some i.zero

theorem TIok.of {P : Program} {t : TypeId} {i : TI} (h1 : P.underlying t = some i.desc) (h2 : (P.info? t).map (fun j => (j.size, j.bytes, j.zero)) = some (i.size, i.bytes, some i.zero)) : TIok P t i := by
  refine ⟨h1, ?_⟩
  cases hq : P.info? t with
  | none => rw [hq] at h2; cases h2
  | some j =>
    rw [hq] at h2
    simp only [Option.map_some, Option.some.injEq, Prod.mk.injEq] at h2
    exact ⟨j, rfl, h2.1, h2.2.1, h2.2.2⟩

def TabOK (P : Program) (D : Tab) : Prop := ∀ x ∈ D, TIok P x.1 x.2

theorem TabOK.get {P : Program} {D : Tab} (h : TabOK P D) {t : TypeId} {i : TI} (hg : D.get t = some i) : TIok P t i := by
  induction D with
  | nil => simp [Tab.get] at hg
  | cons x D ih =>
    obtain ⟨u, j⟩ := x
    simp only [Tab.get] at hg
    cases hb : Nat.beq t u with
    | true =>
      rw [hb] at hg
      simp only [cond_true, Option.some.injEq] at hg
      subst hg
      have : t = u := Nat.eq_of_beq_eq_true hb
      subst this
      exact h (t, j) (by simp)
    | false =>
      rw [hb] at hg
      exact ih (fun x hx => h x (List.mem_cons_of_mem _ hx)) (by simpa using hg)

def TI.isAgg (i : TI) : Bool := match i.desc with
  | .struct _ => true
  | .array _ _ => true
  | _ => false

section runs
variable {P : Program} {w : World} {t : TypeId} {i : TI}

theorem run_sizeOf' (h : TIok P t i) : (sizeOf t).run P w = .ok i.size w := by
  obtain ⟨j, hj, h1, _⟩ := h.info
  simp [sizeOf, typeInfo, hj, h1]

theorem run_zero' (h : TIok P t i) : (zeroValue t).run P w = .ok i.zero w := by
  obtain ⟨j, hj, _, _, h1⟩ := h.info
  simp [zeroValue, typeInfo, hj, h1]

theorem run_isAgg' (h : TIok P t i) : (isAgg t).run P w = .ok i.isAgg w := by
  simp only [isAgg, Sem.run_bind, run_underlying h.und, Result.andThen_ok]
  unfold TI.isAgg
  split <;> simp_all

theorem cellsOf' (h : TIok P t i) : P.cellsOf t = i.size := by
  obtain ⟨j, hj, h1, _⟩ := h.info
  simp [Program.cellsOf, hj, h1]

theorem run_part_agg (h : TIok P t i) (ha : i.isAgg = true) (cs : Array Value) (off : Nat) : (part t cs off).run P w = .ok (.agg (cs.extract off (off + i.size))) w := by
  simp [part, run_isAgg' h, ha, run_sizeOf' h]

theorem run_part_one (h : TIok P t i) (ha : i.isAgg = false) (cs : Array Value) (off : Nat) (v : Value) (hv : cs[off]? = some v) : (part t cs off).run P w = .ok v w := by
  simp [part, run_isAgg' h, ha, hv]

theorem add_off (b o k : Nat) : (⟨b, o, none⟩ : Addr).add k = ⟨b, o + k, none⟩ := by
  unfold Addr.add; split <;> simp_all

theorem run_loadVar_agg (h : TIok P t i) (ha : i.isAgg = true) (b off : Nat) (c : Nat → Value) (hc : ∀ j, j < i.size → w.cell? ⟨b, off + j, none⟩ = some (c j)) :
    (loadVar t ⟨b, off, none⟩).run P w = .ok (.agg ((List.range i.size).map c).toArray) w := by
  have := run_loadCells (P := P) w ⟨b, off, none⟩ i.size c (fun j hj => by rw [add_off]; exact hc j hj)
  simp [loadVar, run_isAgg' h, ha, run_sizeOf' h, this]

theorem run_loadVar_one (h : TIok P t i) (ha : i.isAgg = false) (b off : Nat) (v : Value) (hc : w.cell? ⟨b, off, none⟩ = some v) :
    (loadVar t ⟨b, off, none⟩).run P w = .ok v w := by
  simp [loadVar, run_isAgg' h, ha, hc]
end runs

theorem LVal.of_run {G : Ctx} {o : Oper} {T : Nat → TV} {S : LS} {r : TV}
    (h : ∀ (K : Kept) (w : World) (a : Act), Inv G S K w → (∀ x ∈ o.op.operands, RepT G w K (lev T x) (a.eval x)) → ∃ v, (execOp a.eval o).run G.P w = .ok (.value v) w ∧ RepT G w K r v) : LVal G o T S r := by
  intro K w a hi hr
  obtain ⟨v, h1, h2⟩ := h K w a hi hr
  unfold Oper.wp
  rw [h1]
  exact ⟨v, K, rfl, h2, hi, .refl _ _⟩

theorem RepT.flat {G : Ctx} {w : World} {K : Kept} {x v : Value} (h : RepT G w K (.one (.v x)) v) : v = x := by
  cases h with | one h => cases h; rfl
theorem RepT.flat1 {G : Ctx} {w : World} {K : Kept} {x v : Value} (h : RepT G w K (.one (.v x)) v) : x.oneCell' = true := by
  cases h with | one h => cases h; assumption
theorem RepT.of_one {G : Ctx} {w : World} {K : Kept} {x : LV} {v : Value} (h : RepT G w K (.one x) v) : Rep G w K x v := by
  cases h with | one h => exact h
theorem RepT.raw {G : Ctx} {w : World} {K : Kept} {x : Value} (h : x.oneCell' = true) : RepT G w K (.one (.v x)) x := .one (.raw x h)

theorem RepT.agg_inv {G : Ctx} {w : World} {K : Kept} {l : List LV} {v : Value} (h : RepT G w K (.agg l) v) :
    ∃ vs, v = .agg vs ∧ vs.size = l.length ∧ ∀ (j : Nat) x v, l[j]? = some x → vs[j]? = some v → Rep G w K x v := by
  cases h with | agg l vs hs h => exact ⟨vs, rfl, hs, h⟩
theorem RepT.tup_inv {G : Ctx} {w : World} {K : Kept} {l : List TV} {v : Value} (h : RepT G w K (.tup l) v) :
    ∃ vs, v = .tuple vs ∧ vs.size = l.length ∧ ∀ (j : Nat) x v, l[j]? = some x → vs[j]? = some v → RepT G w K x v := by
  cases h with | tup l vs hs h => exact ⟨vs, rfl, hs, h⟩
theorem RepT.ro_inv {G : Ctx} {w : World} {K : Kept} {l : List LV} {v : Value} (h : RepT G w K (.ro l) v) :
    ∃ (b off : Nat) (c : Nat → Value), v = .pointer (some ⟨b, off, none⟩) ∧ (∀ (j : Nat) x, l[j]? = some x → w.cell? ⟨b, off + j, none⟩ = some (c j) ∧ K b (off + j)) ∧ ∀ (j : Nat) x, l[j]? = some x → Rep G w K x (c j) := by
  cases h with | ro l b off c h hr => exact ⟨b, off, c, rfl, h, hr⟩

/-- Integers. -/
def lint (op : BinOp) (k : IntKind) (a b : Int) : Option Value :=
  match op with
  | .add => some (.int k (k.wrap (a + b)))
  | .sub => some (.int k (k.wrap (a - b)))
  | .mul => some (.int k (k.wrap (a * b)))
  | .quo => if b = 0 then none else some (.int k (k.wrap (a.tdiv b)))
  | .rem => if b = 0 then none else some (.int k (a.tmod b))
  | .and => some (.int k (k.wrap ((BitVec.ofInt k.bits a &&& BitVec.ofInt k.bits b).toNat : Int)))
  | .or => some (.int k (k.wrap ((BitVec.ofInt k.bits a ||| BitVec.ofInt k.bits b).toNat : Int)))
  | .xor => some (.int k (k.wrap ((BitVec.ofInt k.bits a ^^^ BitVec.ofInt k.bits b).toNat : Int)))
  | .andNot => some (.int k (k.wrap ((BitVec.ofInt k.bits a &&& ~~~BitVec.ofInt k.bits b).toNat : Int)))
  | .eql => some (.bool (a == b))
  | .neq => some (.bool (a != b))
  | .lss => some (.bool (decide (a < b)))
  | .leq => some (.bool (decide (a ≤ b)))
  | .gtr => some (.bool (decide (a > b)))
  | .geq => some (.bool (decide (a ≥ b)))
  | .shl => none
  | .shr => none

def lstr (op : BinOp) (a b : ByteArray) : Option Value :=
  match op with
  | .eql => some (.bool (a.toList == b.toList))
  | .neq => some (.bool !(a.toList == b.toList))
  | .lss => some (.bool (Op.bytesLess a.toList b.toList))
  | .leq => some (.bool (Op.bytesLess a.toList b.toList || a.toList == b.toList))
  | .gtr => some (.bool !(Op.bytesLess a.toList b.toList || a.toList == b.toList))
  | .geq => some (.bool !Op.bytesLess a.toList b.toList)
  | _ => none

/-- Equality of two plain values of one cell, at a type. -/
def leql (d : TypeDesc) (a b : Value) : Option Bool :=
  match d, a, b with
  | .bool, .bool x, .bool y => some (x == y)
  | .pointer _, .pointer none, .pointer y => some y.isNone
  | .pointer _, .pointer (some _), .pointer none => some false
  | .func _ _ _, .nilFunc, .nilFunc => some true
  | .func _ _ _, .nilFunc, .func _ _ _ => some false
  | .func _ _ _, .func _ _ _, .nilFunc => some false
  | .slice _, .slice none _ _, .slice y _ _ => some y.isNone
  | .slice _, .slice (some _) _ _, .slice none _ _ => some false
  | .map _ _, .map none, .map y => some y.isNone
  | .map _ _, .map (some _), .map none => some false
  | _, _, _ => none

def lbin (D : Tab) (t : TypeId) (op : BinOp) (a b : Value) : Option Value :=
  match a, b with
  | .int k x, .int k' y => bif k == k' then lint op k x y else none
  | .string x, .string y => lstr op x y
  | a, b => match D.get t with
    | none => none
    | some i => match op with
      | .eql => (leql i.desc a b).map Value.bool
      | .neq => (leql i.desc a b).map fun x => Value.bool !x
      | _ => none

theorem binOp_int {P : Program} {w : World} {t : TypeId} {op : BinOp} {k : IntKind} {x y : Int} {v : Value} (h : lint op k x y = some v) : (binOp op t (.int k x) (.int k y)).run P w = .ok v w := by
  unfold lint at h
  cases op <;> simp only [Option.some.injEq, reduceCtorEq] at h <;> (try subst h) <;> simp only [binOp, ne_eq, not_true_eq_false, if_false, Op.intArith, Op.intBits, Op.intCmp, Op.intDiv, Sem.run_pure]
  all_goals
    split at h
    · cases h
    · rename_i hne
      simp only [Option.some.injEq] at h
      subst h
      rw [if_neg hne]
      rfl

theorem binOp_str {P : Program} {w : World} {t : TypeId} {op : BinOp} {x y : ByteArray} {v : Value} (h : lstr op x y = some v) : (binOp op t (.string x) (.string y)).run P w = .ok v w := by
  unfold lstr at h
  cases op <;> simp only [Option.some.injEq, reduceCtorEq] at h <;> (try subst h) <;> simp only [binOp, Op.stringOp, Sem.run_pure]

theorem equal_of {P : Program} {w : World} {t : TypeId} {d : TypeDesc} {a b : Value} {c : Bool} (hd : P.underlying t = some d) (h : leql d a b = some c) : (Op.equal t a b).run P w = .ok c w := by
  have key : ∀ n, (Op.equalIn (n + 1) t a b).run P w = .ok c w := fun n => by
    unfold leql at h
    split at h <;> simp only [Option.some.injEq, reduceCtorEq] at h <;> subst h <;> simp [Op.equalIn, run_underlying hd]
  exact key 9999

theorem eqGuard_flat {P : Program} {w : World} {op : BinOp} {t : TypeId} {x y : Operand} {a b : Value} (h : ∀ xs, a ≠ .agg xs) (h2 : a ≠ .nilIface) : (eqGuard op t x y a b).run P w = .ok () w := by
  cases op <;> first
    | rfl
    | (cases a <;> first | exact absurd rfl h2 | exact absurd rfl (h _) | rfl)

theorem binOp_of {P : Program} {D : Tab} (hD : TabOK P D) {w : World} {t : TypeId} {op : BinOp} {a b v : Value} (h : lbin D t op a b = some v) :
    (binOp op t a b).run P w = .ok v w ∧ (∀ xs, a ≠ .agg xs) ∧ a ≠ .nilIface ∧ v.oneCell' = true := by
  unfold lbin at h
  split at h
  · rename_i k x k' y
    cases hk : (k == k') with
    | false => rw [hk] at h; simp at h
    | true =>
      rw [hk] at h
      have : k = k' := by simpa using hk
      subst this
      refine ⟨binOp_int (by simpa using h), by simp, by simp, ?_⟩
      simp only [cond_true] at h
      unfold lint at h
      cases op <;> simp only [Option.some.injEq, reduceCtorEq] at h <;> first | (subst h; rfl) | (split at h <;> first | (cases h; done) | (simp only [Option.some.injEq] at h; subst h; rfl))
  · rename_i x y
    refine ⟨binOp_str h, by simp, by simp, ?_⟩
    unfold lstr at h
    cases op <;> simp only [Option.some.injEq, reduceCtorEq] at h <;> (subst h; rfl)
  · rename_i hni hns
    cases hg : D.get t with
    | none => rw [hg] at h; simp at h
    | some i =>
      rw [hg] at h
      have hd := (hD.get hg).und
      simp only at h
      split at h
      · cases hl : leql i.desc a b with
        | none => rw [hl] at h; simp at h
        | some c =>
          rw [hl] at h
          simp only [Option.map_some, Option.some.injEq] at h
          subst h
          have he := equal_of (w := w) hd hl
          unfold leql at hl
          split at hl <;> first | (simp at hl; done) | exact ⟨by simp [binOp, he], by simp, by simp, rfl⟩
      · cases hl : leql i.desc a b with
        | none => rw [hl] at h; simp at h
        | some c =>
          rw [hl] at h
          simp only [Option.map_some, Option.some.injEq] at h
          subst h
          have he := equal_of (w := w) hd hl
          unfold leql at hl
          split at hl <;> first | (simp at hl; done) | exact ⟨by simp [binOp, he], by simp, by simp, rfl⟩
      · simp at h

theorem LVal.binOp {G : Ctx} {D : Tab} (hD : TabOK G.P D) {o : Oper} {T : Nat → TV} {S : LS} {op : BinOp} {t u : TypeId} {x y : Operand} {a b v : Value} (ho : o.op = .binOp op t x y u)
    (hx : lev T x = .one (.v a)) (hy : lev T y = .one (.v b)) (h : lbin D t op a b = some v) : LVal G o T S (.one (.v v)) :=
  .of_run fun K w ac hi hr => by
    have h1 := hr x (by rw [ho]; simp [Op.operands])
    have h2 := hr y (by rw [ho]; simp [Op.operands])
    rw [hx] at h1
    rw [hy] at h2
    obtain ⟨r1, r2, r3, r4⟩ := binOp_of hD (w := w) h
    refine ⟨v, ?_, .raw r4⟩
    simp only [execOp, ho, h1.flat, h2.flat, Sem.run_bind, eqGuard_flat r2 r3, Result.andThen_ok, r1, Sem.run_pure]

/-- Sums that fit. -/
theorem LVal.add64 {G : Ctx} {o : Oper} {T : Nat → TV} {S : LS} {t u : TypeId} {x y : Operand} {a b : Int} (ho : o.op = .binOp .add t x y u)
    (hx : lev T x = .one (.v (.int .i64 a))) (hy : lev T y = .one (.v (.int .i64 b))) (h : -9223372036854775808 ≤ a + b ∧ a + b ≤ 9223372036854775807) : LVal G o T S (.one (.v (.int .i64 (a + b)))) := by
  have := LVal.binOp (G := G) (S := S) (D := []) (fun _ h => by cases h) ho hx hy (v := .int .i64 (IntKind.i64.wrap (a + b))) rfl
  rw [IntWalk.i64_in _ h] at this
  exact this
theorem LVal.sub64 {G : Ctx} {o : Oper} {T : Nat → TV} {S : LS} {t u : TypeId} {x y : Operand} {a b : Int} (ho : o.op = .binOp .sub t x y u)
    (hx : lev T x = .one (.v (.int .i64 a))) (hy : lev T y = .one (.v (.int .i64 b))) (h : -9223372036854775808 ≤ a - b ∧ a - b ≤ 9223372036854775807) : LVal G o T S (.one (.v (.int .i64 (a - b)))) := by
  have := LVal.binOp (G := G) (S := S) (D := []) (fun _ h => by cases h) ho hx hy (v := .int .i64 (IntKind.i64.wrap (a - b))) rfl
  rw [IntWalk.i64_in _ h] at this
  exact this

/-- Quotients and remainders of numbers that are not below zero. -/
theorem LVal.remI {G : Ctx} {o : Oper} {T : Nat → TV} {S : LS} {t u : TypeId} {x y : Operand} {k : IntKind} {a b : Int} (ho : o.op = .binOp .rem t x y u)
    (hx : lev T x = .one (.v (.int k a))) (hy : lev T y = .one (.v (.int k b))) (h : 0 ≤ a ∧ 0 < b) : LVal G o T S (.one (.v (.int k (a % b)))) := by
  have := LVal.binOp (G := G) (S := S) (D := []) (fun _ h => by cases h) ho hx hy (v := .int k (a.tmod b)) (by simp [lbin, lint]; omega)
  rw [Int.tmod_eq_emod_of_nonneg h.1] at this
  exact this
theorem LVal.quoU64 {G : Ctx} {o : Oper} {T : Nat → TV} {S : LS} {t u : TypeId} {x y : Operand} {a b : Int} (ho : o.op = .binOp .quo t x y u)
    (hx : lev T x = .one (.v (.int .u64 a))) (hy : lev T y = .one (.v (.int .u64 b))) (h : 0 ≤ a ∧ a ≤ 18446744073709551615 ∧ 0 < b) : LVal G o T S (.one (.v (.int .u64 (a / b)))) := by
  have := LVal.binOp (G := G) (S := S) (D := []) (fun _ h => by cases h) ho hx hy (v := .int .u64 (IntKind.u64.wrap (a.tdiv b))) (by simp [lbin, lint]; omega)
  rw [IntWalk.u64_quo _ _ (by omega)] at this
  exact this
theorem LVal.quo64 {G : Ctx} {o : Oper} {T : Nat → TV} {S : LS} {t u : TypeId} {x y : Operand} {a b : Int} (ho : o.op = .binOp .quo t x y u)
    (hx : lev T x = .one (.v (.int .i64 a))) (hy : lev T y = .one (.v (.int .i64 b))) (h : 0 ≤ a ∧ a ≤ 9223372036854775807 ∧ 0 < b) : LVal G o T S (.one (.v (.int .i64 (a / b)))) := by
  have := LVal.binOp (G := G) (S := S) (D := []) (fun _ h => by cases h) ho hx hy (v := .int .i64 (IntKind.i64.wrap (a.tdiv b))) (by simp [lbin, lint]; omega)
  rw [IntWalk.i64_quo _ _ (by omega)] at this
  exact this
theorem LVal.mul64 {G : Ctx} {o : Oper} {T : Nat → TV} {S : LS} {t u : TypeId} {x y : Operand} {a b : Int} (ho : o.op = .binOp .mul t x y u)
    (hx : lev T x = .one (.v (.int .i64 a))) (hy : lev T y = .one (.v (.int .i64 b))) (h : -9223372036854775808 ≤ a * b ∧ a * b ≤ 9223372036854775807) : LVal G o T S (.one (.v (.int .i64 (a * b)))) := by
  have := LVal.binOp (G := G) (S := S) (D := []) (fun _ h => by cases h) ho hx hy (v := .int .i64 (IntKind.i64.wrap (a * b))) rfl
  rw [IntWalk.i64_in _ h] at this
  exact this

theorem LVal.move {G : Ctx} {o : Oper} {T : Nat → TV} {S : LS} {x : Operand} (ho : o.op = .move x ∨ o.op = .assign x) : LVal G o T S (lev T x) :=
  .of_run fun K w ac hi hr => ⟨ac.eval x, by rcases ho with h | h <;> simp [execOp, h], hr x (by rcases ho with h | h <;> rw [h] <;> simp [Op.operands])⟩

theorem LVal.move1 {G : Ctx} {o : Oper} {T : Nat → TV} {S : LS} {x : Operand} {a : LV} (ho : o.op = .move x) (hx : lev T x = .one a) : LVal G o T S (.one a) := hx ▸ .move (.inl ho)
theorem LVal.assign1 {G : Ctx} {o : Oper} {T : Nat → TV} {S : LS} {x : Operand} {a : LV} (ho : o.op = .assign x) (hx : lev T x = .one a) : LVal G o T S (.one a) := hx ▸ .move (.inr ho)
theorem LVal.move2 {G : Ctx} {o : Oper} {T : Nat → TV} {S : LS} {x : Operand} {a : List LV} (ho : o.op = .move x) (hx : lev T x = .agg a) : LVal G o T S (.agg a) := hx ▸ .move (.inl ho)
theorem LVal.assign2 {G : Ctx} {o : Oper} {T : Nat → TV} {S : LS} {x : Operand} {a : List LV} (ho : o.op = .assign x) (hx : lev T x = .agg a) : LVal G o T S (.agg a) := hx ▸ .move (.inr ho)

theorem LVal.pick {G : Ctx} {o : Oper} {T : Nat → TV} {S : LS} {c x y : Operand} {b : Bool} (ho : o.op = .pick c x y) (hc : lev T c = .one (.v (.bool b))) : LVal G o T S (bif b then lev T x else lev T y) :=
  .of_run fun K w ac hi hr => by
    have h1 := hr c (by rw [ho]; simp [Op.operands])
    rw [hc] at h1
    refine ⟨if b then ac.eval x else ac.eval y, by cases b <;> simp [execOp, ho, h1.flat, asBool], ?_⟩
    cases b
    · exact hr y (by rw [ho]; simp [Op.operands])
    · exact hr x (by rw [ho]; simp [Op.operands])

def lun (op : UnOp) (a : Value) : Option Value :=
  match op, a with
  | .neg, .int k n => some (.int k (k.wrap (0 - n)))
  | .not, .bool b => some (.bool !b)
  | .xor, .int k n => some (.int k (k.wrap ((BitVec.ofInt k.bits (if k.signed then -1 else k.max) ^^^ BitVec.ofInt k.bits n).toNat : Int)))
  | _, _ => none

theorem LVal.unOp {G : Ctx} {o : Oper} {T : Nat → TV} {S : LS} {op : UnOp} {t : TypeId} {x : Operand} {a v : Value} (ho : o.op = .unOp op t x)
    (hx : lev T x = .one (.v a)) (h : lun op a = some v) : LVal G o T S (.one (.v v)) :=
  .of_run fun K w ac hi hr => by
    have h1 := hr x (by rw [ho]; simp [Op.operands])
    rw [hx] at h1
    unfold lun at h
    split at h <;> simp only [Option.some.injEq, reduceCtorEq] at h <;> subst h
    all_goals exact ⟨_, by simp [execOp, ho, h1.flat, Op.unary, Op.intArith, Op.intBits]; try rfl, .raw rfl⟩

theorem LVal.convInt {G : Ctx} {D : Tab} (hD : TabOK G.P D) {o : Oper} {T : Nat → TV} {S : LS} {src dst : TypeId} {x : Operand} {k k' : IntKind} {n : Int} {is id : TI} (ho : o.op = .convert src dst x)
    (hs : D.get src = some is) (hd : D.get dst = some id) (hk : id.desc = .int k') (hx : lev T x = .one (.v (.int k n))) : LVal G o T S (.one (.v (.int k' (k'.wrap n)))) :=
  .of_run fun K w ac hi hr => by
    have h1 := hr x (by rw [ho]; simp [Op.operands])
    rw [hx] at h1
    have e1 := (hD.get hs).und
    have e2 := (hD.get hd).und
    rw [hk] at e2
    refine ⟨_, ?_, .raw rfl⟩
    simp only [execOp, ho, h1.flat, convert, Sem.run_bind, run_underlying e1, run_underlying e2, Result.andThen_ok, Conv.intToInt, Sem.run_pure]

theorem LVal.conv64 {G : Ctx} {D : Tab} (hD : TabOK G.P D) {o : Oper} {T : Nat → TV} {S : LS} {src dst : TypeId} {x : Operand} {k : IntKind} {n : Int} {is id : TI} (ho : o.op = .convert src dst x)
    (hs : D.get src = some is) (hd : D.get dst = some id) (hk : id.desc = .int .i64) (hx : lev T x = .one (.v (.int k n))) (h : -9223372036854775808 ≤ n ∧ n ≤ 9223372036854775807) : LVal G o T S (.one (.v (.int .i64 n))) := by
  have := LVal.convInt (S := S) hD ho hs hd hk hx
  rw [IntWalk.i64_in _ h] at this
  exact this
theorem LVal.convU64 {G : Ctx} {D : Tab} (hD : TabOK G.P D) {o : Oper} {T : Nat → TV} {S : LS} {src dst : TypeId} {x : Operand} {k : IntKind} {n : Int} {is id : TI} (ho : o.op = .convert src dst x)
    (hs : D.get src = some is) (hd : D.get dst = some id) (hk : id.desc = .int .u64) (hx : lev T x = .one (.v (.int k n))) (h : 0 ≤ n ∧ n ≤ 18446744073709551615) : LVal G o T S (.one (.v (.int .u64 n))) := by
  have := LVal.convInt (S := S) hD ho hs hd hk hx
  rw [IntWalk.u64_in _ h] at this
  exact this

theorem LVal.extract {G : Ctx} {o : Oper} {T : Nat → TV} {S : LS} {x : Operand} {i : Nat} {l : List TV} {r : TV} (ho : o.op = .extract x i)
    (hx : lev T x = .tup l) (h : l[i]? = some r) : LVal G o T S r :=
  .of_run fun K w ac hi hr => by
    have h1 := hr x (by rw [ho]; simp [Op.operands])
    rw [hx] at h1
    obtain ⟨vs, hv, hs, hrep⟩ := h1.tup_inv
    have hlt : i < vs.size := by rw [hs]; exact (List.getElem?_eq_some_iff.1 h).1
    refine ⟨vs[i], by simp [execOp, ho, hv, Instr.extract, Array.getElem?_eq_getElem hlt], hrep i r _ h (Array.getElem?_eq_getElem hlt)⟩

/-- A value read off a row of cells. -/
def readT (i : TI) (l : List LV) : Option TV :=
  bif i.isAgg then (bif Nat.ble i.size l.length then some (.agg (l.take i.size)) else none) else match l with
    | x :: _ => some (.one x)
    | [] => none

theorem RepT.part {G : Ctx} {w : World} {K : Kept} {i : TI} {t : TypeId} (ht : TIok G.P t i) {l : List LV} {vs : Array Value} {r : TV} (hs : vs.size = l.length)
    (h : ∀ (j : Nat) x v, l[j]? = some x → vs[j]? = some v → Rep G w K x v) {off : Nat} (hr : readT i (l.drop off) = some r) : ∃ v, (part t vs off).run G.P w = .ok v w ∧ RepT G w K r v := by
  unfold readT at hr
  cases ha : i.isAgg with
  | true =>
    rw [ha] at hr
    simp only [cond_true] at hr
    cases hb : Nat.ble i.size (l.drop off).length with
    | false => rw [hb] at hr; simp at hr
    | true =>
      rw [hb] at hr
      simp only [cond_true, Option.some.injEq] at hr
      subst hr
      have hle : i.size ≤ (l.drop off).length := Nat.le_of_ble_eq_true hb
      rw [List.length_drop] at hle
      refine ⟨_, run_part_agg ht ha vs off, .agg _ _ (by simp; omega) fun j x v hj hv => ?_⟩
      rw [List.getElem?_take] at hj
      split at hj
      · rename_i hlt
        rw [List.getElem?_drop] at hj
        rw [Array.getElem?_extract] at hv
        split at hv
        · exact h _ _ _ hj hv
        · cases hv
      · cases hj
  | false =>
    rw [ha] at hr
    simp only [cond_false] at hr
    cases hl : l.drop off with
    | nil => rw [hl] at hr; simp at hr
    | cons x l' =>
      rw [hl] at hr
      simp only [Option.some.injEq] at hr
      subst hr
      have hx : l[off]? = some x := by
        have := List.getElem?_drop (xs := l) (i := off) (j := 0)
        rw [hl] at this; simpa using this.symm
      have hlt : off < vs.size := by rw [hs]; exact (List.getElem?_eq_some_iff.1 hx).1
      exact ⟨vs[off], run_part_one ht ha vs off _ (Array.getElem?_eq_getElem hlt), .one (h off x _ hx (Array.getElem?_eq_getElem hlt))⟩

theorem LVal.field {G : Ctx} {D : Tab} (hD : TabOK G.P D) {o : Oper} {T : Nat → TV} {S : LS} {t : TypeId} {x : Operand} {f : Nat} {l : List LV} {r : TV} {i j : TI} {fs : Array Field} {fd : Field} (ho : o.op = .field t x f)
    (hx : lev T x = .agg l) (hi : D.get t = some i) (hfs : i.desc = .struct fs) (hf : fs.toList[f]? = some fd) (hj : D.get fd.type = some j) (h : readT j (l.drop fd.offset) = some r) : LVal G o T S r :=
  .of_run fun K w ac hi' hr => by
    have h1 := hr x (by rw [ho]; simp [Op.operands])
    rw [hx] at h1
    obtain ⟨vs, hv, hs, hrep⟩ := h1.agg_inv
    have e1 := (hD.get hi).und
    rw [hfs] at e1
    obtain ⟨v, hp, hrv⟩ := RepT.part (hD.get hj) hs hrep h
    refine ⟨v, ?_, hrv⟩
    have hf' : fs[f]? = some fd := by simpa using hf
    simp [execOp, ho, hv, Instr.field, run_underlying e1, hf', asAgg, hp]

theorem run_fieldPlace {P : Program} {w : World} {b o : Nat} {f : Field} {j : TI} (h : TIok P f.type j) (hn : j.size ≠ 0) : (fieldPlace ⟨b, o, none⟩ f).run P w = .ok ⟨b, o + f.offset, none⟩ w := by
  simp [fieldPlace, run_sizeOf' h, hn, add_off]

theorem LVal.fieldAddrRo {G : Ctx} {D : Tab} (hD : TabOK G.P D) {o : Oper} {T : Nat → TV} {S : LS} {t : TypeId} {x : Operand} {f : Nat} {l : List LV} {i j : TI} {fs : Array Field} {fd : Field} (ho : o.op = .fieldAddr t x f)
    (hx : lev T x = .ro l) (hi : D.get t = some i) (hfs : i.desc = .struct fs) (hf : fs.toList[f]? = some fd) (hj : D.get fd.type = some j) (hn : j.size ≠ 0) : LVal G o T S (.ro (l.drop fd.offset)) :=
  .of_run fun K w ac hi' hr => by
    have h1 := hr x (by rw [ho]; simp [Op.operands])
    rw [hx] at h1
    obtain ⟨b, off, c, hv, hc, hrep⟩ := h1.ro_inv
    have e1 := (hD.get hi).und
    rw [hfs] at e1
    have hf' : fs[f]? = some fd := by simpa using hf
    refine ⟨.pointer (some ⟨b, off + fd.offset, none⟩), ?_, .ro _ b (off + fd.offset) (fun j => c (fd.offset + j)) (fun j x hj => ?_) fun j x hj => ?_⟩
    · simp [execOp, ho, hv, Instr.fieldAt, run_underlying e1, hf', Instr.sureAddr, run_fieldPlace (hD.get hj) hn]
    · rw [List.getElem?_drop] at hj
      have := hc _ _ hj
      rw [← Nat.add_assoc] at this
      exact this
    · rw [List.getElem?_drop] at hj
      exact hrep _ _ hj

theorem LVal.fieldAddr {G : Ctx} {D : Tab} (hD : TabOK G.P D) {o : Oper} {T : Nat → TV} {S : LS} {t : TypeId} {x : Operand} {f : Nat} {b off : Nat} {i j : TI} {fs : Array Field} {fd : Field} (ho : o.op = .fieldAddr t x f)
    (hx : lev T x = .one (.v (.pointer (some ⟨b, off, none⟩)))) (hi : D.get t = some i) (hfs : i.desc = .struct fs) (hf : fs.toList[f]? = some fd) (hj : D.get fd.type = some j) (hn : j.size ≠ 0) :
    LVal G o T S (.one (.v (.pointer (some ⟨b, off + fd.offset, none⟩)))) :=
  .of_run fun K w ac hi' hr => by
    have h1 := hr x (by rw [ho]; simp [Op.operands])
    rw [hx] at h1
    have e1 := (hD.get hi).und
    rw [hfs] at e1
    have hf' : fs[f]? = some fd := by simpa using hf
    refine ⟨_, ?_, .raw rfl⟩
    simp [execOp, ho, h1.flat, Instr.fieldAt, run_underlying e1, hf', Instr.sureAddr, run_fieldPlace (hD.get hj) hn]

/-- Cells that stay, or cells of a block that may be written: read as a value. -/
theorem RepT.load {G : Ctx} {w : World} {K : Kept} {i : TI} {t : TypeId} (ht : TIok G.P t i) {l : List LV} {b off : Nat} {c : Nat → Value} {r : TV}
    (hc : ∀ (j : Nat) x, l[j]? = some x → w.cell? ⟨b, off + j, none⟩ = some (c j)) (hrep : ∀ (j : Nat) x, l[j]? = some x → Rep G w K x (c j)) (hr : readT i l = some r) :
    ∃ v, (loadVar t ⟨b, off, none⟩).run G.P w = .ok v w ∧ RepT G w K r v := by
  unfold readT at hr
  cases ha : i.isAgg with
  | true =>
    rw [ha] at hr
    simp only [cond_true] at hr
    cases hb : Nat.ble i.size l.length with
    | false => rw [hb] at hr; simp at hr
    | true =>
      rw [hb] at hr
      simp only [cond_true, Option.some.injEq] at hr
      subst hr
      have hle : i.size ≤ l.length := Nat.le_of_ble_eq_true hb
      refine ⟨_, run_loadVar_agg ht ha b off c (fun j hj => hc j l[j] (List.getElem?_eq_getElem (by omega))), .agg _ _ (by simp; omega) fun j x v hj hv => ?_⟩
      rw [List.getElem?_take] at hj
      split at hj
      · rename_i hlt
        have : v = c j := by
          simp only [List.getElem?_toArray, List.getElem?_map, List.getElem?_range hlt, Option.map_some, Option.some.injEq] at hv
          exact hv.symm
        subst this
        exact hrep _ _ hj
      · cases hj
  | false =>
    rw [ha] at hr
    simp only [cond_false] at hr
    cases l with
    | nil => simp at hr
    | cons x l' =>
      simp only [Option.some.injEq] at hr
      subst hr
      exact ⟨c 0, run_loadVar_one ht ha b off _ (by have := hc 0 x rfl; simpa using this), .one (hrep 0 x rfl)⟩

theorem LVal.loadRo {G : Ctx} {D : Tab} (hD : TabOK G.P D) {o : Oper} {T : Nat → TV} {S : LS} {t : TypeId} {x : Operand} {l : List LV} {r : TV} {i : TI} (ho : o.op = .load t x)
    (hx : lev T x = .ro l) (hi : D.get t = some i) (h : readT i l = some r) : LVal G o T S r :=
  .of_run fun K w ac hi' hr => by
    have h1 := hr x (by rw [ho]; simp [Op.operands])
    rw [hx] at h1
    obtain ⟨b, off, c, hv, hc, hrep⟩ := h1.ro_inv
    obtain ⟨v, hl, hrv⟩ := RepT.load (hD.get hi) (fun j x hj => (hc j x hj).1) hrep h
    exact ⟨v, by simp [execOp, ho, hv, Instr.loadAt, Instr.sureAddr, hl], hrv⟩

theorem Inv.cells {G : Ctx} {S : LS} {K : Kept} {w : World} (h : Inv G S K w) {b : Nat} {cs : List LV} (hb : S.box b = some cs) :
    ∃ c T, w.heap[b]? = some (.cells c T (0, 0)) ∧ c.size = cs.length ∧ ∀ (j : Nat) x, cs[j]? = some x → ∃ v, c[j]? = some v ∧ w.cell? ⟨b, j, none⟩ = some v ∧ Rep G w K x v := by
  obtain ⟨_, _, c, T, h1, h2, h3, _⟩ := h.box b cs hb
  refine ⟨c, T, h1, h2, fun j x hj => ?_⟩
  have hlt : j < c.size := by rw [h2]; exact (List.getElem?_eq_some_iff.1 hj).1
  exact ⟨c[j], Array.getElem?_eq_getElem hlt, by rw [cell_of_row w b j c T (0, 0) h1, Array.getElem?_eq_getElem hlt], h3 j x _ hj (Array.getElem?_eq_getElem hlt)⟩

theorem LVal.load {G : Ctx} {D : Tab} (hD : TabOK G.P D) {o : Oper} {T : Nat → TV} {S : LS} {t : TypeId} {x : Operand} {b off : Nat} {cs : List LV} {r : TV} {i : TI} (ho : o.op = .load t x)
    (hx : lev T x = .one (.v (.pointer (some ⟨b, off, none⟩)))) (hb : S.box b = some cs) (hi : D.get t = some i) (h : readT i (cs.drop off) = some r) : LVal G o T S r :=
  .of_run fun K w ac hi' hr => by
    have h1 := hr x (by rw [ho]; simp [Op.operands])
    rw [hx] at h1
    obtain ⟨c, T, e1, e2, e3⟩ := hi'.cells hb
    obtain ⟨v, hl, hrv⟩ := RepT.load (G := G) (K := K) (w := w) (hD.get hi) (b := b) (off := off) (c := fun j => c.getD (off + j) undef) (l := cs.drop off) (fun j x hj => by
        rw [List.getElem?_drop] at hj
        obtain ⟨v, h1, h2, _⟩ := e3 _ _ hj
        rw [h2, Array.getD_eq_getD_getElem?, h1]; rfl) (fun j x hj => by
        rw [List.getElem?_drop] at hj
        obtain ⟨v, h1, _, h2⟩ := e3 _ _ hj
        rw [Array.getD_eq_getD_getElem?, h1]; exact h2) h
    exact ⟨v, by simp [execOp, ho, h1.flat, Instr.loadAt, Instr.sureAddr, hl], hrv⟩

/-- The length of a slice, a string. -/
theorem LVal.len {G : Ctx} {D : Tab} (hD : TabOK G.P D) {o : Oper} {T : Nat → TV} {S : LS} {t : TypeId} {x : Operand} {w : Own} {es : List (List LV)} {e : TypeId} {i : TI} (ho : o.op = .call { callee := .builtin .len, args := #[x], argTypes := #[t] })
    (hx : lev T x = .one (.sl w es)) (hi : D.get t = some i) (hd : i.desc = .slice e) : LVal G o T S (.one (.v (.int .i64 es.length))) :=
  .of_run fun K w ac hi' hr => by
    have h1 := hr x (by rw [ho]; simp [Op.operands, Call.operands])
    rw [hx] at h1
    have e1 := (hD.get hi).und
    rw [hd] at e1
    refine ⟨.int .i64 es.length, ?_, .raw rfl⟩
    have h2 := h1.of_one
    generalize hv : ac.eval x = v at h2
    cases h2 <;> simp [execOp, ho, resolve, invoke, builtin, hv, Builtin.len_, run_underlying e1, goInt]

theorem LVal.lenStr {G : Ctx} {D : Tab} (hD : TabOK G.P D) {o : Oper} {T : Nat → TV} {S : LS} {t : TypeId} {x : Operand} {s : ByteArray} {i : TI} (ho : o.op = .call { callee := .builtin .len, args := #[x], argTypes := #[t] })
    (hx : lev T x = .one (.v (.string s))) (hi : D.get t = some i) (hd : i.desc = .string) : LVal G o T S (.one (.v (.int .i64 s.size))) :=
  .of_run fun K w ac hi' hr => by
    have h1 := hr x (by rw [ho]; simp [Op.operands, Call.operands])
    rw [hx] at h1
    have e1 := (hD.get hi).und
    rw [hd] at e1
    refine ⟨_, ?_, .raw rfl⟩
    simp [execOp, ho, resolve, invoke, builtin, h1.flat, Builtin.len_, run_underlying e1, goInt]

/-- An element's address in a slice whose cells stay. -/
theorem LVal.indexSl {G : Ctx} {D : Tab} (hD : TabOK G.P D) {o : Oper} {T : Nat → TV} {S : LS} {t e : TypeId} {x ix : Operand} {w : Own} {es : List (List LV)} {k : IntKind} {n : Int} {i j : TI} {c : List LV} (ho : o.op = .indexAddr t x ix)
    (hx : lev T x = .one (.sl w es)) (hix : lev T ix = .one (.v (.int k n))) (hi : D.get t = some i) (hd : i.desc = .slice e) (hj : D.get e = some j) (h0 : 0 ≤ n) (hc : es[n.toNat]? = some c) (hsz : c.length = j.size) :
    LVal G o T S (.ro c) :=
  .of_run fun K w ac hi' hr => by
    have h1 := hr x (by rw [ho]; simp [Op.operands])
    have h2 := hr ix (by rw [ho]; simp [Op.operands])
    rw [hx] at h1
    rw [hix] at h2
    have e1 := (hD.get hi).und
    rw [hd] at e1
    have hlt := (List.getElem?_eq_some_iff.1 hc).1
    have h3 := h1.of_one
    generalize hv : ac.eval x = v at h3
    cases h3 with
    | nil => simp at hc
    | emp a cap => simp at hc
    | row _ _ b off cap z cc hn hcap hz hoo hcc hrr =>
      have hz' : z = j.size := by rw [← hsz]; exact (hz c (List.mem_of_getElem? hc)).symm
      subst hz'
      have hb : 0 ≤ n ∧ n < (es.length : Int) := ⟨h0, by omega⟩
      refine ⟨.pointer (some ⟨b, off + n.toNat * j.size, none⟩), ?_, .ro _ _ _ (fun q => cc n.toNat q) (fun q x hq => ?_) fun q x hq => ?_⟩
      · simp only [execOp, ho, hv, h2.flat, Instr.indexAt, Sem.run_bind, asIntOf, Sem.run_pure, Result.andThen_ok, run_underlying e1, hb, and_self, if_true, run_sizeOf' (hD.get hj), add_off]
      · have := hcc n.toNat q x (by simp [cellOf, hc, hq])
        rw [← Nat.add_assoc] at this
        exact this
      · exact hrr n.toNat q x (by simp [cellOf, hc, hq])

/-- .. where the elements are the images of a list's. -/
theorem LVal.indexMap {G : Ctx} {D : Tab} (hD : TabOK G.P D) {o : Oper} {T : Nat → TV} {S : LS} {t e : TypeId} {x ix : Operand} {w : Own} {α : Type} {xs : List α} {f : α → List LV} {k : IntKind} {n : Nat} {i j : TI} (ho : o.op = .indexAddr t x ix)
    (hx : lev T x = .one (.sl w (xs.map f))) (hix : lev T ix = .one (.v (.int k (n : Int)))) (hi : D.get t = some i) (hd : i.desc = .slice e) (hj : D.get e = some j) (hn : n < xs.length) (hsz : (f xs[n]).length = j.size) :
    LVal G o T S (.ro (f xs[n])) :=
  .indexSl hD ho hx hix hi hd hj (by omega) (by simp [hn]) hsz

/-- A byte of a string. -/
theorem LVal.indexStr {G : Ctx} {D : Tab} (hD : TabOK G.P D) {o : Oper} {T : Nat → TV} {S : LS} {t : TypeId} {x ix : Operand} {s : ByteArray} {k : IntKind} {n : Int} {i : TI} {c : UInt8} (ho : o.op = .index t x ix)
    (hx : lev T x = .one (.v (.string s))) (hix : lev T ix = .one (.v (.int k n))) (hi : D.get t = some i) (hd : i.desc = .string) (h0 : 0 ≤ n) (hc : s[n.toNat]? = some c) :
    LVal G o T S (.one (.v (.int .u8 c.toNat))) :=
  .of_run fun K w ac hi' hr => by
    have h1 := hr x (by rw [ho]; simp [Op.operands])
    have h2 := hr ix (by rw [ho]; simp [Op.operands])
    rw [hx] at h1
    rw [hix] at h2
    have e1 := (hD.get hi).und
    rw [hd] at e1
    refine ⟨_, ?_, .raw rfl⟩
    simp only [execOp, ho, h1.flat, h2.flat, Instr.index, Sem.run_bind, asIntOf, Sem.run_pure, Result.andThen_ok, run_underlying e1, h0, if_true, hc]

/-- A function of the program that gives a value and turns nothing. -/
def LFun (G : Ctx) (f : FuncId) (args : List TV) (r : TV) : Prop := ∀ S, LCalls G f args (fun r' S' => r' = r ∧ S' = S) S

theorem LVal.call {G : Ctx} {o : Oper} {T : Nat → TV} {S : LS} {f : FuncId} {fn : Func} {xs : List Operand} {ts : Array TypeId} {args : List TV} {r : TV}
    (ho : o.op = .call { callee := .value (.func f), args := xs.toArray, argTypes := ts }) (hx : xs.map (fun x => shTV (lev T x)) = args) (hf : G.P.funcs[f]? = some fn) (hb : fn.body.isSome = true) (hn : fn.name ≠ "runtime.NumGoroutine")
    (h : LFun G f args r) : LVal G o T S r := by
  intro K w a hi hr
  have hrun : (execOp a.eval o).run G.P w = .ok (.enter f (xs.map a.eval).toArray) w := by
    have hbn : fn.body ≠ none := fun e => by rw [e] at hb; cases hb
    simp [execOp, ho, resolve, Act.eval, Deferred.ofValue, invoke, callFunc, hf, hn, hbn]
  unfold Oper.wp
  rw [hrun]
  refine (h S K w _ hi ⟨by rw [← hx]; simp, fun i x v hx' hv => ?_⟩).mono fun e w' hp => ?_
  · subst hx
    rw [List.getElem?_map] at hx'
    rw [List.getElem?_toArray, List.getElem?_map] at hv
    cases hq : xs[i]? with
    | none => rw [hq] at hx'; simp at hx'
    | some y =>
      rw [hq] at hx' hv
      simp only [Option.map_some, Option.some.injEq] at hx' hv
      subst hx'; subst hv
      exact (hr y (by rw [ho]; simp [Op.operands, Call.operands]; exact .inr (List.mem_of_getElem? hq))).shTV
  · obtain ⟨r', v, S', K', rfl, h2, h3, h4, rfl, rfl⟩ := hp
    exact ⟨v, K', rfl, h2, h3, h4⟩

end Go.Proofs.Ytkjbdldjfjkneaa.LF
