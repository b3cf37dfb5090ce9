/- The nil slice: its room, its part, zeros appended to it; a call with its operands as they are. -/
import Derived.Test.YtkjbdldjfjkneaaLFzb
set_option linter.unusedVariables false
set_option linter.unusedSimpArgs false
namespace Go.Proofs.Ytkjbdldjfjkneaa.LF
open Go.RowKit
set_option linter.unusedVariables false

theorem LDo.callX {G : Ctx} {o : Oper} {T : Nat → TV} {S : LS} {f : FuncId} {fn : Func} {xs : List Operand} {ts : Array TypeId} {args : List TV} {R : TV → LS → Prop}
    (h : LCalls G f args R S) (hf : G.P.funcs[f]? = some fn) (ho : o.op = .call { callee := .value (.func f), args := xs.toArray, argTypes := ts } := by rfl) (hx : xs.map (lev T) = args := by rfl) (hb : fn.body.isSome = true := by rfl) (hn : fn.name ≠ "runtime.NumGoroutine" := by decide) : LDo G o T S R := by
  intro K w a hi hr
  have hrun : (execOp a.eval o).run G.P w = .ok (.enter f (xs.map a.eval).toArray) w := by
    have hbn : fn.body ≠ none := fun e => by rw [e] at hb; cases hb
    simp [execOp, ho, resolve, Act.eval, Deferred.ofValue, invoke, callFunc, hf, hn, hbn]
  unfold Oper.wp
  rw [hrun]
  refine (h K w _ hi ⟨by rw [← hx]; simp, fun i x v hx' hv => ?_⟩).mono fun e w' hp => ?_
  · subst hx
    rw [List.getElem?_map] at hx'
    rw [List.getElem?_toArray, List.getElem?_map] at hv
    cases hq : xs[i]? with
    | none => rw [hq] at hx'; simp at hx'
    | some y =>
      rw [hq] at hx' hv
      simp only [Option.map_some, Option.some.injEq] at hx' hv
      subst hx'; subst hv
      exact hr y (by rw [ho]; simp [Op.operands, Call.operands]; exact .inr (List.mem_of_getElem? hq))
  · obtain ⟨r', v, S', K', rfl, h2, h3, h4, h5⟩ := hp
    exact ⟨r', v, S', K', rfl, h2, h3, h4, h5⟩

/-- A new variable that stays: a pointer to its cells. -/
theorem LVal.boxP {G : Ctx} {o : Oper} {T : Nat → TV} {S : LS} {t : TypeId} {x : Operand} {l : List LV} (ho : o.op = .box t x) (hx : tcells (lev T x) = some l) : LVal G o T S (.one (.p l)) :=
  fun K w a hi hr => by
    have h1 := hr x (by rw [ho]; simp [Op.operands])
    obtain ⟨h2, h3⟩ := h1.cells hx
    have hrun : (execOp a.eval o).run G.P w = .ok (.value (.pointer (some ⟨w.heap.size, 0, none⟩))) (w.alloc (.cells (a.eval x).cells t)) := by
      simp [execOp, ho, Instr.box, newVar, newRow]
    have i1 := hi.newBox _ t _ h2 h3
    have i2 := Ext.alloc hi (.cells (a.eval x).cells t)
    have hb := box_new S w.heap.size l
    obtain ⟨j1, j2⟩ := i1.freeze hb
    have hf := hi.fresh
    unfold Oper.wp
    rw [hrun]
    refine ⟨_, _, rfl, ?_, j1.forget ((LS.le.newBox (.refl _) hf _).delBox hf.box) hi.wf (fun b x hb => (hi.row b x.1 x.2 hb).2.2.1), i2.trans j2⟩
    obtain ⟨cur, T0, c1, c2, c3⟩ := i1.cells hb
    refine .one (.ptr l w.heap.size 0 (fun j => cur.getD j undef) (fun j x hj => ?_) fun j x hj => ?_)
    · obtain ⟨v, d1, d2, d3⟩ := c3 j x hj
      have : cur.getD j undef = v := by rw [Array.getD_eq_getD_getElem?, d1]; rfl
      rw [Nat.zero_add, this]
      exact ⟨d2, .inr ⟨rfl, (List.getElem?_eq_some_iff.1 hj).1⟩⟩
    · obtain ⟨v, d1, d2, d3⟩ := c3 j x hj
      have : cur.getD j undef = v := by rw [Array.getD_eq_getD_getElem?, d1]; rfl
      rw [this]
      exact d3.mono j2

section
variable {G : Ctx} {D : Tab} (hD : TabOK G.P D) {o : Oper} {T : Nat → TV} {S : LS} {t e : TypeId} {i j : TI}
include hD

theorem LVal.capNil {x : Operand} (ho : o.op = .call { callee := .builtin .cap, args := #[x], argTypes := #[t] })
    (hx : lev T x = .one (.sl .nil [])) (hi : D.get t = some i) (hd : i.desc = .slice e) : LVal G o T S (.one (.v (.int .i64 0))) :=
  .of_run fun K w ac hi' hr => by
    have h1 := hr x (by rw [ho]; simp [Op.operands, Call.operands])
    rw [hx] at h1
    have e1 := (hD.get hi).und
    rw [hd] at e1
    have hv : ac.eval x = .slice none 0 0 := by
      have := h1.of_one
      generalize ac.eval x = v at this
      cases this with
      | nil => rfl
      | row _ _ b off cap z c hn => exact absurd rfl hn
    refine ⟨_, ?_, .raw rfl⟩
    simp [execOp, ho, resolve, invoke, builtin, hv, Builtin.cap_, run_underlying e1, goInt]

theorem LVal.sliceNil {x : Operand} {lo hi : Option Operand} {l h : Int} (ho : o.op = .slice t x lo hi none)
    (hx : lev T x = .one (.sl .nil [])) (hi' : D.get t = some i) (hd : i.desc = .slice e) (hj : D.get e = some j) (el : bnd T 0 lo = some l) (eh : bnd T (0 : Nat) hi = some h) (h0 : l = 0) (h1 : h = 0) :
    LVal G o T S (.one (.sl .nil [])) :=
  .of_run fun K w ac hi'' hr => by
    have r1 := hr x (by rw [ho]; simp [Op.operands])
    rw [hx] at r1
    subst h0; subst h1
    have e1 := (hD.get hi').und
    rw [hd] at e1
    have rlo : ∀ x, lo = some x → RepT G w K (lev T x) (ac.eval x) := fun x hx => hr x (by rw [ho, hx]; simp [Op.operands])
    have rhi : ∀ x, hi = some x → RepT G w K (lev T x) (ac.eval x) := fun x hx => hr x (by rw [ho, hx]; simp [Op.operands])
    have hv : ac.eval x = .slice none 0 0 := by
      have := r1.of_one
      generalize ac.eval x = v at this
      cases this with
      | nil => rfl
      | row _ _ b off cap z c hn => exact absurd rfl hn
    have hb := run_bounds (isS := true) (cap := 0) rlo rhi el eh (by omega) (by omega) (by omega)
    refine ⟨.slice none 0 0, ?_, .one .nil⟩
    have h3 := sliceAt_slice (w := w) e1 (ac.eval x) (lo.map ac.eval) (hi.map ac.eval) none
    simp only [execOp, ho, Sem.run_bind, Option.map_none, h3]
    simp only [hv, Instr.slice, run_underlying e1, Sem.run_bind, Result.andThen_ok, hb, run_sizeOf' (hD.get hj), Sem.run_pure]
    simp

/-- append of zeros to nil. -/
theorem LDo.appendZerosN {s x : Operand} {m : Nat} {k : IntKind} {tn : TypeId} {in' : TI} {kn : IntKind} (ho : o.op = .call { callee := .builtin .append, args := #[s, x], argTypes := #[t, tn] })
    (hs : lev T s = .one (.sl .nil [])) (hx : lev T x = .one (.v (.int k (m : Int)))) (hi : D.get t = some i) (hd : i.desc = .slice e) (hj : D.get e = some j) (hn : D.get tn = some in') (hdn : in'.desc = .int kn) (hsz : Nat.blt 0 j.size = true) (hz : j.zero.cells.toList.all Value.oneCell' = true) (hby : Nat.ble j.bytes 1024 = true)
    (h0 : 0 < m) (hbig : m ≤ 100000000) :
    LDo G o T S (fun r S' => ∃ b' c', S.fresh b' ∧ m ≤ c' ∧ r = .one (rsl b' 0 m c') ∧ S' = S.newBox b' (zrow j m ++ zrow j (c' - m))) :=
  .of_run fun K w ac hi' hr => by
    have r1 := hr s (by rw [ho]; simp [Op.operands, Call.operands])
    have r2 := hr x (by rw [ho]; simp [Op.operands, Call.operands])
    rw [hs] at r1
    rw [hx] at r2
    have e1 := (hD.get hi).und
    rw [hd] at e1
    have en := (hD.get hn).und
    rw [hdn] at en
    have hsz' : 0 < j.size := by simpa [Nat.blt_eq] using hsz
    have hby' : j.bytes ≤ 1024 := Nat.le_of_ble_eq_true hby
    obtain ⟨ji, q1, q2, q3, q4⟩ := (hD.get hj).info
    have hv : ac.eval s = .slice none 0 0 := by
      have := r1.of_one
      generalize ac.eval s = v at this
      cases this with
      | nil => rfl
      | row _ _ b off cap z c hn => exact absurd rfl hn
    have hbytes : (0 + m) * j.bytes ≤ 140737488355328 := Nat.le_trans (Nat.mul_le_mul (show 0 + m ≤ 100000000 by omega) hby') (by decide)
    have hg : 0 < 0 + m := by omega
    have hmb : m * j.bytes ≤ (0 + m) * j.bytes := Nat.mul_le_mul_right _ (by omega)
    have hrun := Lib.run_append_grow_zeros (P := G.P) w t tn o.type e ji j.zero k kn e1 en q1 q4 none 0 0 [] (by simp [Builtin.firstCells, loadCells, loadCellsFrom]) m h0 (by rw [q2]; exact hsz') hg (by omega) (by rw [q3]; omega) (by rw [q3]; exact growslice_fits hg hbytes)
    have hge := grownCap_ge w (0 + m) 0 e
    simp only [Nat.zero_add] at hrun hge
    have hinv := hi'.drew.newBox (([] : List Value).toArray ++ Builtin.zeroCells j.zero.cells m ++ Builtin.zeroCells j.zero.cells (grownCap w m 0 e - m)) e (zrow j m ++ zrow j (grownCap w m 0 e - m)) (by
        rw [Array.size_append, Array.size_append, List.size_toArray, List.length_append, zrow_length, zrow_length, size_zeroCells, size_zeroCells]; simp) (fun q y u hy hu => by
        refine Rep.mono (.drew K w) (append_get_rep (l := zrow j m) (vs := (Builtin.zeroCells j.zero.cells m).toList) (vs2 := (Builtin.zeroCells j.zero.cells (grownCap w m 0 e - m)).toList) (by rw [zrow_length, Array.length_toList, size_zeroCells]) (fun q y u hy hu => zrow_rep G w K hz _ q y u hy (by simpa using hu)) (fun q y u hy hu => zrow_rep G w K hz _ q y u hy (by simpa using hu)) q y u hy ?_)
        rw [← Array.getElem?_toList, Array.toList_append, Array.toList_append] at hu
        simpa using hu)
    have hext : Ext K w K (w.drew.alloc (.cells (([] : List Value).toArray ++ Builtin.zeroCells j.zero.cells m ++ Builtin.zeroCells j.zero.cells (grownCap w m 0 e - m)) e)) := (Ext.drew K w).trans (Ext.alloc hi'.drew _)
    refine ⟨_, _, _, _, _, ?_, .raw rfl, hinv, hext, w.heap.size, grownCap w m 0 e, hi'.fresh, hge, rfl, rfl⟩
    simp [execOp, ho, resolve, invoke, builtin, hv, r2.flat, hrun]
end
/-- All of them, one behind the other, so far. -/
def catN (ls : List (List (List LV))) (k : Nat) : List (List LV) := (ls.take k).flatten
theorem catN_step {ls : List (List (List LV))} {k : Nat} (h : k < ls.length) : catN ls (k + 1) = catN ls k ++ ls[k] := by
  unfold catN
  rw [List.take_succ_eq_append_getElem h, List.flatten_append]; simp
theorem catN_all (ls : List (List (List LV))) : catN ls ls.length = ls.flatten := by unfold catN; rw [List.take_length]
theorem catN_le (ls : List (List (List LV))) (k : Nat) : (catN ls k).length ≤ ls.flatten.length := by
  have h : ls.flatten = (ls.take k).flatten ++ (ls.drop k).flatten := by rw [← List.flatten_append, List.take_append_drop]
  rw [h, List.length_append]; unfold catN; omega
abbrev shE (l : List (List LV)) : List LV := [.sl .sh l]

end Go.Proofs.Ytkjbdldjfjkneaa.LF
