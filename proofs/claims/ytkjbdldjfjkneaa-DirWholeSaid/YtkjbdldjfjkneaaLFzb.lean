/- Pointers to what stays, as cells: made by freezing a variable. -/
import Derived.Test.YtkjbdldjfjkneaaLFza
set_option linter.unusedVariables false
set_option linter.unusedSimpArgs false
namespace Go.Proofs.Ytkjbdldjfjkneaa.LF
open Go.RowKit
set_option linter.unusedVariables false

theorem LS.le.delBox {S S' : LS} (h : S.le S') {b : Nat} (hb : S.box b = Option.none) : S.le (S'.delBox b) :=
  ⟨fun c x hc => (box_del_ne S' (fun e => by rw [e, hb] at hc; cases hc)).trans (h.box c x hc), h.row, h.obj, h.top⟩

/-- A variable becomes what stays. -/
theorem frozen_ptr {G : Ctx} {n : Nat} {T : Nat → TV} {S : LS} {d b : Nat} {cs : List LV} (hd : T d = .one (.v (.pointer (some ⟨b, 0, none⟩)))) (hb : S.box b = some cs) :
    ∀ K w (a : Act), Inv G S K w → RelT G w K n T a → ∃ K', Inv G (S.delBox b) K' w ∧ RelT G w K' n (upd T d (.one (.p cs))) a ∧ Ext K w K' w := fun K w a hi hr => by
  obtain ⟨j1, j2⟩ := hi.freeze hb
  refine ⟨_, j1, ⟨hr.1, fun q => ?_⟩, j2⟩
  by_cases hq : q = d
  · subst hq
    rw [upd_same]
    have hv := hr.2 q
    rw [hd] at hv
    rw [hv.flat]
    obtain ⟨cur, T0, c1, c2, c3⟩ := hi.cells hb
    refine .one (.ptr cs b 0 (fun j => cur.getD j undef) (fun j x hj => ?_) fun j x hj => ?_)
    · obtain ⟨v, d1, d2, d3⟩ := c3 j x hj
      have : cur.getD j undef = v := by rw [Array.getD_eq_getD_getElem?, d1]; rfl
      rw [Nat.zero_add, this]
      exact ⟨d2, .inr ⟨rfl, (List.getElem?_eq_some_iff.1 hj).1⟩⟩
    · obtain ⟨v, d1, d2, d3⟩ := c3 j x hj
      have : cur.getD j undef = v := by rw [Array.getD_eq_getD_getElem?, d1]; rfl
      rw [this]
      exact d3.mono j2
  · rw [upd_ne T _ hq]; exact (hr.2 q).mono j2
theorem LWp.freezeP (d : Nat) {G : Ctx} {M : Option Nat} {n : Nat} {code : Code} {Q : Exit → (Nat → TV) → LS → Prop} {T : Nat → TV} {S : LS} {b : Nat} {cs : List LV} (hd : T d = .one (.v (.pointer (some ⟨b, 0, none⟩)))) (hb : S.box b = some cs)
    (k : LWp G M n code Q (upd T d (.one (.p cs))) (S.delBox b)) : LWp G M n code Q T S := .conv (frozen_ptr hd hb) k
theorem LOps.freezeP (d : Nat) {G : Ctx} {M : Option Nat} {n : Nat} {ops : Array Oper} {l : List Oper} {Q : (Nat → TV) → LS → Prop} {T : Nat → TV} {S : LS} {b : Nat} {cs : List LV} (hd : T d = .one (.v (.pointer (some ⟨b, 0, none⟩)))) (hb : S.box b = some cs)
    (k : LOps G M n ops l Q (upd T d (.one (.p cs))) (S.delBox b)) : LOps G M n ops l Q T S := .conv (frozen_ptr hd hb) k

theorem LRes.three {G : Ctx} {n : Nat} {fn : Func} {T : Nat → TV} {S : LS} {t u z : Tmp} (h : fn.results = #[.tmp t, .tmp u, .tmp z]) : LRes G n fn T S (.tup [T t, T u, T z]) :=
  fun K w a _ hr => ⟨.tuple #[a.tmps.getD t undef, a.tmps.getD u undef, a.tmps.getD z undef], by simp [results, h], .tup _ _ rfl fun j x v hj hv => by
    match j with
    | 0 =>
      obtain rfl : T t = x := by simpa using hj
      obtain rfl : a.tmps.getD t undef = v := by simpa using hv
      exact hr.2 t
    | 1 =>
      obtain rfl : T u = x := by simpa using hj
      obtain rfl : a.tmps.getD u undef = v := by simpa using hv
      exact hr.2 u
    | 2 =>
      obtain rfl : T z = x := by simpa using hj
      obtain rfl : a.tmps.getD z undef = v := by simpa using hv
      exact hr.2 z
    | j + 3 => simp at hj⟩

/-- A call of a function value without what it captured. -/
theorem LVal.callF2 {G : Ctx} {o : Oper} {T : Nat → TV} {S : LS} {g : Operand} {f : FuncId} {fn : Func} {xs : List Operand} {ts : Array TypeId} {args : List TV} {r : TV}
    (ho : o.op = .call { callee := .value g, args := xs.toArray, argTypes := ts }) (hg : lev T g = .one (.v (.func (.func f) #[] #[]))) (hx : xs.map (fun x => shTV (lev T x)) = args) (hf : G.P.funcs[f]? = some fn) (hb : fn.body.isSome = true) (hn : fn.name ≠ "runtime.NumGoroutine")
    (h : LFun G f args r) : LVal G o T S r := by
  intro K w a hi hr
  have hgv := hr g (by rw [ho]; simp [Op.operands, Call.operands])
  rw [hg] at hgv
  have hrun : (execOp a.eval o).run G.P w = .ok (.enter f (xs.map a.eval).toArray) w := by
    have hbn : fn.body ≠ none := fun e => by rw [e] at hb; cases hb
    simp [execOp, ho, resolve, hgv.flat, Deferred.ofValue, invoke, callFunc, hf, hn, hbn]
  unfold Oper.wp
  rw [hrun]
  have hargs : ArgsRel G w K args (xs.map a.eval).toArray := by
    subst hx
    refine ⟨by simp, fun i x v hx' hv => ?_⟩
    rw [List.getElem?_map] at hx'
    rw [List.getElem?_toArray, List.getElem?_map] at hv
    cases hq : xs[i]? with
    | none => rw [hq] at hx'; simp at hx'
    | some y =>
      rw [hq] at hx' hv
      simp only [Option.map_some, Option.some.injEq] at hx' hv
      subst hx'; subst hv
      exact (hr y (by rw [ho]; simp [Op.operands, Call.operands]; exact .inr (List.mem_of_getElem? hq))).shTV
  refine (h S K w _ hi hargs).mono fun e w' hp => ?_
  obtain ⟨r', v, S', K', rfl, h2, h3, h4, rfl, rfl⟩ := hp
  exact ⟨v, K', rfl, h2, h3, h4⟩
end Go.Proofs.Ytkjbdldjfjkneaa.LF
