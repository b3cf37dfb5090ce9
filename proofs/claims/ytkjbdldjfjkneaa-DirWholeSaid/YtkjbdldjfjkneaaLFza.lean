/- Joins of strings. -/
import Derived.Test.YtkjbdldjfjkneaaLFz
set_option linter.unusedVariables false
set_option linter.unusedSimpArgs false
namespace Go.Proofs.Ytkjbdldjfjkneaa.LF
open Go.RowKit

theorem LVal.addStr {G : Ctx} {o : Oper} {T : Nat → TV} {S : LS} {t u : TypeId} {x y : Operand} {a b : ByteArray} (ho : o.op = .binOp .add t x y u) (hx : lev T x = .one (.v (.string a))) (hy : lev T y = .one (.v (.string b))) (h : a.size + b.size ≤ 9223372036854775807) :
    LVal G o T S (.one (.v (.string (a ++ b)))) :=
  .of_run fun K w ac hi hr => by
    have h1 := hr x (by rw [ho]; simp [Op.operands])
    have h2 := hr y (by rw [ho]; simp [Op.operands])
    rw [hx] at h1
    rw [hy] at h2
    refine ⟨.string (a ++ b), ?_, .raw rfl⟩
    have hn : ¬ (((a.size + b.size : Nat) : Int) > IntKind.i64.max) := by
      have : IntKind.i64.max = 9223372036854775807 := rfl
      omega
    simp only [execOp, ho, h1.flat, h2.flat, Sem.run_bind, eqGuard_flat (by simp : ∀ xs, Value.string a ≠ .agg xs) (by simp), Result.andThen_ok, Go.binOp, Op.stringOp, hn, if_false, Sem.run_pure]
end Go.Proofs.Ytkjbdldjfjkneaa.LF
