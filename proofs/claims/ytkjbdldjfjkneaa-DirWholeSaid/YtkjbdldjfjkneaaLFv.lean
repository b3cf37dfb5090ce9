/- Numbers put together of bytes. -/
import Derived.Test.YtkjbdldjfjkneaaLFu
set_option linter.unusedVariables false
set_option linter.unusedSimpArgs false
namespace Go.Proofs.Ytkjbdldjfjkneaa.LF
open Go.RowKit

theorem LVal.shlN {G : Ctx} {o : Oper} {T : Nat → TV} {S : LS} {t u : TypeId} {x y : Operand} {k' : IntKind} {m c : Nat} {b : Int} (ho : o.op = .binOp .shl t x y u)
    (hx : lev T x = .one (.v (.int .i64 (m : Int)))) (hy : lev T y = .one (.v (.int k' b))) (hb : b = (c : Int)) (hc : c ≤ 64) (h : m * 2 ^ c < 9223372036854775808) : LVal G o T S (.one (.v (.int .i64 ((m * 2 ^ c : Nat) : Int)))) :=
  .of_run fun K w ac hi hr => by
    subst hb
    have h1 := hr x (by rw [ho]; simp [Op.operands])
    have h2 := hr y (by rw [ho]; simp [Op.operands])
    rw [hx] at h1
    rw [hy] at h2
    refine ⟨.int .i64 ((m * 2 ^ c : Nat) : Int), ?_, .raw rfl⟩
    have e1 : Min.min c IntKind.i64.bits = c := Nat.min_eq_left hc
    have e2 : (m : Int) * 2 ^ c = ((m * 2 ^ c : Nat) : Int) := by push_cast; rfl
    have e3 : IntKind.i64.wrap ((m * 2 ^ c : Nat) : Int) = ((m * 2 ^ c : Nat) : Int) := IntWalk.i64_in _ ⟨by omega, by omega⟩
    have key : (Go.binOp .shl t (.int .i64 (m : Int)) (.int k' (c : Int))).run G.P w = .ok (.int .i64 ((m * 2 ^ c : Nat) : Int)) w := by
      simp only [Go.binOp, Op.shift]
      rw [if_neg (by omega)]
      simp only [Int.toNat_natCast, e1, e2, e3, Sem.run_pure]
    simp only [execOp, ho, h1.flat, h2.flat, Sem.run_bind, eqGuard_flat (by simp : ∀ xs, Value.int .i64 (m : Int) ≠ .agg xs) (by simp), Result.andThen_ok, key, Sem.run_pure]

theorem LVal.orN {G : Ctx} {o : Oper} {T : Nat → TV} {S : LS} {t u : TypeId} {x y : Operand} {a m c : Nat} (ho : o.op = .binOp .or t x y u)
    (hx : lev T x = .one (.v (.int .i64 (a : Int)))) (hy : lev T y = .one (.v (.int .i64 ((m * 2 ^ c : Nat) : Int)))) (ha : a < 2 ^ c) (h : a + m * 2 ^ c < 9223372036854775808) : LVal G o T S (.one (.v (.int .i64 ((a + m * 2 ^ c : Nat) : Int)))) := by
  have h0 := LVal.binOp (G := G) (S := S) (D := []) (fun _ h => by cases h) ho hx hy (v := .int .i64 (IntKind.i64.wrap ((BitVec.ofInt 64 (a : Int) ||| BitVec.ofInt 64 ((m * 2 ^ c : Nat) : Int)).toNat : Int))) rfl
  have e : (BitVec.ofInt 64 (a : Int) ||| BitVec.ofInt 64 ((m * 2 ^ c : Nat) : Int)).toNat = a + m * 2 ^ c := by
    rw [BitVec.toNat_or, BitVec.ofInt_natCast, BitVec.ofInt_natCast, BitVec.toNat_ofNat, BitVec.toNat_ofNat, Nat.mod_eq_of_lt (by omega), Nat.mod_eq_of_lt (by omega)]
    have := Nat.shiftLeft_add_eq_or_of_lt ha m
    rw [Nat.shiftLeft_eq] at this
    rw [Nat.or_comm, ← this, Nat.add_comm]
  rw [e, IntWalk.i64_in _ ⟨by omega, by omega⟩] at h0
  exact h0
end Go.Proofs.Ytkjbdldjfjkneaa.LF
