/- The frame's operations once more (two). -/
import Derived.Test.YtkjbdldjfjkneaaLFm
set_option linter.unusedVariables false
set_option linter.unusedSimpArgs false
namespace Go.Proofs.Ytkjbdldjfjkneaa.LF
open Go.RowKit

theorem LVal.shrN {G : Ctx} {o : Oper} {T : Nat → TV} {S : LS} {t u : TypeId} {x y : Operand} {k' : IntKind} {m n q : Nat} {b : Int} (ho : o.op = .binOp .shr t x y u)
    (hx : lev T x = .one (.v (.int .u64 (m : Int)))) (hy : lev T y = .one (.v (.int k' b))) (hb : b = (n : Int)) (h : n ≤ 64) (hq : m / 2 ^ n = q) : LVal G o T S (.one (.v (.int .u64 (q : Int)))) := by
  subst hb
  subst hq
  have := LVal.shr64 (G := G) (S := S) ho hx hy (by omega)
  rw [Int.toNat_natCast] at this
  have e : ((m : Int) / 2 ^ n) = ((m / 2 ^ n : Nat) : Int) := by simp
  rwa [e] at this

/-- The memory forgotten, but for what is said of it. -/
theorem LWp.gen {G : Ctx} {M : Option Nat} {n : Nat} {c : Code} {Q : Exit → (Nat → TV) → LS → Prop} {T : Nat → TV} {S : LS} (P : LS → Prop) (h : P S) (k : ∀ S, P S → LWp G M n c Q T S) : LWp G M n c Q T S := k S h
theorem LOps.gen {G : Ctx} {M : Option Nat} {n : Nat} {ops : Array Oper} {l : List Oper} {Q : (Nat → TV) → LS → Prop} {T : Nat → TV} {S : LS} (P : LS → Prop) (h : P S) (k : ∀ S, P S → LOps G M n ops l Q T S) : LOps G M n ops l Q T S := k S h

end Go.Proofs.Ytkjbdldjfjkneaa.LF
