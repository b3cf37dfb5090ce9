/- Arrays. -/
import Derived.Test.YtkjbdldjfjkneaaLFr
set_option linter.unusedVariables false
set_option linter.unusedSimpArgs false
namespace Go.Proofs.Ytkjbdldjfjkneaa.LF
open Go.RowKit

theorem LVal.buildArr {G : Ctx} {D : Tab} (hD : TabOK G.P D) {o : Oper} {T : Nat → TV} {S : LS} {t e : TypeId} {n : Nat} {ps : List (Nat × Operand)} {lp : List (Nat × List LV)} {l : List LV} {i j : TI} (ho : o.op = .build t ps.toArray)
    (hp : lparts T ps = some lp) (hi : D.get t = some i) (hd : i.desc = .array n e) (hj : D.get e = some j) (hz : i.zero.cells.toList.all Value.oneCell' = true)
    (h : lfill (fun k => some (k * j.size, j.size)) (lzero i) lp = some l) : LVal G o T S (.agg l) :=
  .of_run fun K w ac hi' hr => by
    have e1 := (hD.get hi).und
    rw [hd] at e1
    obtain ⟨p1, p2⟩ := lparts_rep (G := G) (w := w) (K := K) (T := T) (a := ac) ps lp (fun p hp => hr p.2 (by rw [ho]; simp only [Op.operands]; simp only [List.mem_toArray, List.mem_map]; exact ⟨p, by simpa using hp, rfl⟩)) hp
    obtain ⟨cells', f1, f2, f3⟩ := fill_rep lp (ps.map fun p => (p.1, ac.eval p.2)) (lzero i) l i.zero.cells (by simp [lzero]) (lzero_rep G w K hz) p1 p2 h
    refine ⟨.agg cells', ?_, .agg _ _ f2 f3⟩
    simp only [execOp, ho, Instr.build, Sem.run_bind, run_zero' (hD.get hi), Result.andThen_ok, run_underlying e1, run_sizeOf' (hD.get hj), List.map_toArray]
    have hmap : (List.map (fun x : Nat × Operand => match x with | (i, x) => (i, ac.eval x)) ps) = ps.map fun p => (p.1, ac.eval p.2) := rfl
    rw [hmap, f1]
    simp

theorem LVal.indexArr {G : Ctx} {D : Tab} (hD : TabOK G.P D) {o : Oper} {T : Nat → TV} {S : LS} {t e : TypeId} {n m : Nat} {x ix : Operand} {k : IntKind} {l : List LV} {r : TV} {i j : TI} (ho : o.op = .index t x ix)
    (hx : lev T x = .agg l) (hix : lev T ix = .one (.v (.int k (m : Int)))) (hi : D.get t = some i) (hd : i.desc = .array n e) (hj : D.get e = some j) (hm : m < n) (h : readT j (l.drop (m * j.size)) = some r) : LVal G o T S r :=
  .of_run fun K w ac hi' hr => by
    have h1 := hr x (by rw [ho]; simp [Op.operands])
    have h2 := hr ix (by rw [ho]; simp [Op.operands])
    rw [hx] at h1
    rw [hix] at h2
    obtain ⟨vs, hv, hs, hrep⟩ := h1.agg_inv
    have e1 := (hD.get hi).und
    rw [hd] at e1
    obtain ⟨v, hp, hrv⟩ := RepT.part (hD.get hj) hs hrep h
    refine ⟨v, ?_, hrv⟩
    have hm' : (0 : Int) ≤ (m : Int) ∧ (m : Int) < (n : Int) := ⟨by omega, by omega⟩
    simp only [execOp, ho, hv, h2.flat, Instr.index, asIntOf, Sem.run_bind, Sem.run_pure, Result.andThen_ok, run_underlying e1, if_pos hm', Int.toNat_natCast, run_sizeOf' (hD.get hj), hp]
end Go.Proofs.Ytkjbdldjfjkneaa.LF
