/- Interface values: made of a pointer, asked for their type, called by name, held against nil; the greater of two numbers. -/
import Derived.Test.YtinbibeapooghaaLGb
import Derived.Test.YtinbibeapooghaaLGc
import Derived.Test.YtinbibeapooghaaLGa
import Derived.WideLaws
set_option linter.unusedVariables false
set_option linter.unusedSimpArgs false
namespace Go.Proofs.Ytinbibeapooghaa.LF
open Go.RowKit
set_option linter.unusedVariables false

abbrev ifc (t b : Nat) : LV := .v (.iface t (.pointer (some ⟨b, 0, none⟩)))

theorem LVal.makeIface {G : Ctx} {D : Tab} (hD : TabOK G.P D) {o : Oper} {T : Nat → TV} {S : LS} {t e : TypeId} {x : Operand} {a : Value} {i : TI} (ho : o.op = .makeInterface t x) (hx : lev T x = .one (.v a)) (hi : D.get t = some i) (hd : i.desc = .pointer e) :
    LVal G o T S (.one (.v (.iface t a))) :=
  .of_run fun K w ac hi' hr => by
    have h1 := hr x (by rw [ho]; simp [Op.operands])
    rw [hx] at h1
    have e1 := (hD.get hi).und
    rw [hd] at e1
    have e2 := run_makeInterface w t a (P := G.P) (by simp [Program.concrete, e1])
    refine ⟨_, ?_, .raw rfl⟩
    simp [execOp, ho, h1.flat, e2]

theorem run_typeAssert_ptr {P : Program} {w : World} {t t' xt e : TypeId} {v : Value} {i : TI} (hi : TIok P t i) (hd : i.desc = .pointer e) (hz : i.zero = .pointer none) :
    (Instr.typeAssert (.iface t' v) xt t true).run P w = .ok (if t' = t then .tuple #[v, .bool true] else .tuple #[.pointer none, .bool false]) w := by
  have e1 := hi.und
  rw [hd] at e1
  have e3 := run_zero' (w := w) hi
  rw [hz] at e3
  by_cases h : t' = t
  · simp [Instr.typeAssert, run_underlying e1, h]
  · simp [Instr.typeAssert, run_underlying e1, h, e3]

theorem LVal.assertYes {G : Ctx} {D : Tab} (hD : TabOK G.P D) {o : Oper} {T : Nat → TV} {S : LS} {t xt e : TypeId} {x : Operand} {v : Value} {i : TI} (ho : o.op = .typeAssert x xt t true) (hx : lev T x = .one (.v (.iface t v))) (hi : D.get t = some i) (hd : i.desc = .pointer e) (hz : i.zero = .pointer none) (hv : v.oneCell' = true) :
    LVal G o T S (.tup [.one (.v v), .one (bv true)]) :=
  .of_run fun K w ac hi' hr => by
    have h1 := hr x (by rw [ho]; simp [Op.operands])
    rw [hx] at h1
    have e2 := run_typeAssert_ptr (w := w) (t' := t) (xt := xt) (v := v) (hD.get hi) hd hz
    rw [if_pos rfl] at e2
    refine ⟨_, by simp [execOp, ho, h1.flat, e2]; rfl, .tup _ _ rfl fun k y u hy hu => ?_⟩
    match k, hy, hu with
    | 0, rfl, hu => obtain rfl : v = u := by simpa using hu
                    exact .one (.raw _ hv)
    | 1, rfl, hu => obtain rfl : Value.bool true = u := by simpa using hu
                    exact .one (.raw _ rfl)
    | k + 2, hy, _ => simp at hy
theorem LVal.assertNo {G : Ctx} {D : Tab} (hD : TabOK G.P D) {o : Oper} {T : Nat → TV} {S : LS} {t t' xt e : TypeId} {x : Operand} {v : Value} {i : TI} (ho : o.op = .typeAssert x xt t true) (hx : lev T x = .one (.v (.iface t' v))) (hi : D.get t = some i) (hd : i.desc = .pointer e) (hz : i.zero = .pointer none) (hne : Nat.beq t' t = false) :
    LVal G o T S (.tup [.one (.v (.pointer none)), .one (bv false)]) :=
  .of_run fun K w ac hi' hr => by
    have h1 := hr x (by rw [ho]; simp [Op.operands])
    rw [hx] at h1
    have e2 := run_typeAssert_ptr (w := w) (t' := t') (xt := xt) (v := v) (hD.get hi) hd hz
    rw [if_neg (fun e => by rw [e] at hne; simp at hne)] at e2
    refine ⟨_, by simp [execOp, ho, h1.flat, e2]; rfl, .tup _ _ rfl fun k y u hy hu => ?_⟩
    match k, hy, hu with
    | 0, rfl, hu => obtain rfl : Value.pointer none = u := by simpa using hu
                    exact .one (.raw _ rfl)
    | 1, rfl, hu => obtain rfl : Value.bool false = u := by simpa using hu
                    exact .one (.raw _ rfl)
    | k + 2, hy, _ => simp at hy

/-- An interface value held against nil. -/
theorem LVal.eqNilIf {G : Ctx} {o : Oper} {T : Nat → TV} {S : LS} {t u t' : TypeId} {x : Operand} {v : Value} (hm : G.P.underlying t = some (.interface (G.P.methodsAt t))) (ho : o.op = .binOp .eql t x (.const .nilIface) u) (hx : lev T x = .one (.v (.iface t' v))) : LVal G o T S (.one (bv false)) :=
  .of_run fun K w ac hi' hr => by
    have h1 := hr x (by rw [ho]; simp [Op.operands])
    rw [hx] at h1
    have e2 : ac.eval (.const .nilIface) = .nilIface := rfl
    have e3 := run_eql_held_nil (P := G.P) w t t' v hm
    refine ⟨_, ?_, .raw rfl⟩
    simp [execOp, ho, h1.flat, e2, eqGuard, e3]
theorem LVal.eqNilNil {G : Ctx} {o : Oper} {T : Nat → TV} {S : LS} {t u : TypeId} {x : Operand} (hm : G.P.underlying t = some (.interface (G.P.methodsAt t))) (ho : o.op = .binOp .eql t x (.const .nilIface) u) (hx : lev T x = .one (.v .nilIface)) : LVal G o T S (.one (bv true)) :=
  .of_run fun K w ac hi' hr => by
    have h1 := hr x (by rw [ho]; simp [Op.operands])
    rw [hx] at h1
    have e2 : ac.eval (.const .nilIface) = .nilIface := rfl
    have e3 := run_eql_nil_nil (P := G.P) w t hm
    refine ⟨_, ?_, .raw rfl⟩
    simp [execOp, ho, h1.flat, e2, eqGuard, e3]

/-- What a method's name leads to. -/
def Leads (P : Program) (t : TypeId) (name : String) (f : FuncId) : Prop := ∀ (v : Value) (args : Array Value) (w : World), (callMethod (.iface t v) name args).run P w = .ok (.enter f (#[v] ++ args)) w

theorem LDo.invoke {G : Ctx} {o : Oper} {T : Nat → TV} {S : LS} {f : FuncId} {rv : Operand} {name : String} {t b : Nat} {xs : List Operand} {ts : Array TypeId} {args : List TV} {R : TV → LS → Prop}
    (h : LCalls G f (ptr b :: args) R S) (hm : Leads G.P t name f) (ho : o.op = .call { callee := .invoke rv name, args := xs.toArray, argTypes := ts }) (hv : lev T rv = .one (ifc t b)) (hx : xs.map (fun x => shTV (lev T x)) = args) : LDo G o T S R := by
  intro K w a hi hr
  have hrv := hr rv (by rw [ho]; simp [Op.operands, Call.operands])
  rw [hv] at hrv
  have hrun : (execOp a.eval o).run G.P w = .ok (.enter f (.pointer (some ⟨b, 0, none⟩) :: xs.map a.eval).toArray) w := by
    have h2 := hm (.pointer (some ⟨b, 0, none⟩)) (xs.map a.eval).toArray w
    simp only [execOp, ho, resolve, hrv.flat, Sem.run_bind, Sem.run_pure, Result.andThen_ok]
    have e5 : (xs.map a.eval).take xs.length = xs.map a.eval := List.take_of_length_le (by simp)
    simpa [Go.invoke, e5] using h2
  unfold Oper.wp
  rw [hrun]
  refine (h K w _ hi ⟨by rw [← hx]; simp, fun i x v hx' hv => ?_⟩).mono fun e w' hp => ?_
  · subst hx
    cases i with
    | zero =>
      simp only [List.getElem?_cons_zero, Option.some.injEq] at hx'
      subst hx'
      rw [List.getElem?_toArray] at hv
      simp only [List.getElem?_cons_zero, Option.some.injEq] at hv
      subst hv
      exact .one (.raw _ rfl)
    | succ i =>
      rw [List.getElem?_toArray] at hv
      simp only [List.getElem?_cons_succ] at hx' hv
      rw [List.getElem?_map] at hx' hv
      cases hq : xs[i]? with
      | none => rw [hq] at hx'; simp at hx'
      | some y =>
        rw [hq] at hx' hv
        simp only [Option.map_some, Option.some.injEq] at hx' hv
        subst hx'; subst hv
        exact (hr y (by rw [ho]; simp [Op.operands, Call.operands]; exact .inr (List.mem_of_getElem? hq))).shTV
  · obtain ⟨r', v, S', K', rfl, h2, h3, h4, h5⟩ := hp
    exact ⟨r', v, S', K', rfl, h2, h3, h4, h5⟩

theorem LVal.max {G : Ctx} {o : Oper} {T : Nat → TV} {S : LS} {x y : Operand} {ts : Array TypeId} {k k' : IntKind} {a b : Int} (ho : o.op = .call { callee := .builtin .max, args := #[x, y], argTypes := ts })
    (hx : lev T x = .one (.v (.int k a))) (hy : lev T y = .one (.v (.int k' b))) : LVal G o T S (.one (.v (.int k (if a < b then b else a)))) :=
  .of_run fun K w ac hi hr => by
    have h1 := hr x (by rw [ho]; simp [Op.operands, Call.operands])
    have h2 := hr y (by rw [ho]; simp [Op.operands, Call.operands])
    rw [hx] at h1
    rw [hy] at h2
    refine ⟨_, ?_, .raw rfl⟩
    simp [execOp, ho, resolve, invoke, builtin, Builtin.max_, Builtin.max2, h1.flat, h2.flat]
end Go.Proofs.Ytinbibeapooghaa.LF
