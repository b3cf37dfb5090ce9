/- keys.Compare over the frame (any seat that has it); short names of cells. -/
import Derived.Test.YtkjbdldjfjkneaaLFza
import Derived.Test.YtkjbdldjfjkneaaLFs
import Derived.Test.YtkjbdldjfjkneaaLFtab
import Derived.Test.YtkjbdldjfjkneaaKeysM
import Derived.Laws.Externs
set_option linter.unusedVariables false
set_option linter.unusedSimpArgs false
namespace Go.Proofs.Ytkjbdldjfjkneaa.LF
open Go.RowKit
open Go.Lib (compareBytes)
set_option linter.unusedVariables false

abbrev iv (x : Int) : LV := .v (.int .i64 x)
abbrev sv (x : ByteArray) : LV := .v (.string x)
abbrev bv (x : Bool) : LV := .v (.bool x)
abbrev uv (x : Int) : LV := .v (.int .u8 x)
abbrev noBytes : ByteArray := { data := #[] }
abbrev ptr (b : Nat) : TV := .one (.v (.pointer (some ⟨b, 0, none⟩)))

/-- The order of texts. -/
def cmpS (a b : ByteArray) : Int := compareBytes a.data.toList b.data.toList
def ltS (a b : ByteArray) : Bool := ltB a.data.toList b.data.toList

theorem cmpS_eq (a b : ByteArray) : cmpS a b = if ltS a b = true then -1 else if ltS b a = true then 1 else 0 := by
  unfold cmpS ltS
  rw [cmp_eq_if]; simp [ltB]
theorem ltS_irrefl (a : ByteArray) : ltS a a = false := ltB_no (List.lt_irrefl _)
theorem ltS_trans {a b c : ByteArray} (h : ltS a b = true) (k : ltS b c = true) : ltS a c = true := by
  simp only [ltS, ltB, decide_eq_true_eq] at *
  exact List.lt_trans h k
theorem ltS_asymm {a b : ByteArray} (h : ltS a b = true) : ltS b a = false := by
  cases hb : ltS b a with
  | false => rfl
  | true => have := ltS_trans h hb; rw [ltS_irrefl] at this; cases this
theorem ba_toList {a b : ByteArray} (h : a.data.toList = b.data.toList) : a = b := by
  apply ByteArray.ext
  exact Array.toList_inj.1 h
theorem ltS_total {a b : ByteArray} (h : ltS a b = false) (k : ltS b a = false) : a = b := by
  simp only [ltS, ltB, decide_eq_false_iff_not] at *
  exact ba_toList (List.le_antisymm (List.not_lt.1 k) (List.not_lt.1 h))
theorem cmpS_lt {a b : ByteArray} : cmpS a b < 0 ↔ ltS a b = true := by
  rw [cmpS_eq]; split
  · simp [*]
  · split <;> simp [*]
theorem cmpS_zero {a b : ByteArray} : cmpS a b = 0 ↔ a = b := by
  rw [cmpS_eq]
  constructor
  · intro h
    split at h
    · cases h
    · rename_i h1
      split at h
      · cases h
      · rename_i h2
        exact ltS_total (by simpa using h1) (by simpa using h2)
  · rintro rfl
    rw [ltS_irrefl]; simp
theorem cmpS_ge {a b : ByteArray} : cmpS a b ≥ 0 ↔ ltS a b = false := by
  rw [ge_iff_le, ← Int.not_lt, cmpS_lt]; simp

theorem LVal.cmpExt {G : Ctx} {o : Oper} {T : Nat → TV} {S : LS} {x y : Operand} {f : FuncId} {fn : Func} {ts : Array TypeId} {a b : ByteArray} (ho : o.op = .call { callee := .value (.func f), args := #[x, y], argTypes := ts })
    (hf : G.P.funcs[f]? = some fn) (hname : (fn.name == "runtime.NumGoroutine") = false) (hbn : fn.body.isNone = true) (hnx : Extern.findNext fn = none) (hfe : Extern.find fn = some Extern.BytealgCompare.compare)
    (hx : lev T x = .one (.v (.string a))) (hy : lev T y = .one (.v (.string b))) : LVal G o T S (.one (iv (cmpS a b))) :=
  .of_run fun K w ac hi' hr => by
    have h1 := hr x (by rw [ho]; simp [Op.operands, Call.operands])
    have h2 := hr y (by rw [ho]; simp [Op.operands, Call.operands])
    rw [hx] at h1
    rw [hy] at h2
    have hcall := run_callFunc_extern (f := f) hf hname hbn hnx hfe #[.string a, .string b] w
    rw [Lib.run_compareString] at hcall
    refine ⟨_, ?_, .raw rfl⟩
    simp only [Result.andThen_ok] at hcall
    have key : (execOp ac.eval o).run G.P w = (callFunc f #[ac.eval x, ac.eval y]).run G.P w := by simp [execOp, ho, resolve, Act.eval, Deferred.ofValue, invoke]
    rw [key, h1.flat, h2.flat, hcall]
    rfl

theorem cmp1_F {G : Ctx} (hP : G.P = Try.prog) (a b : ByteArray) : LFun G 54 [.one (sv a), .one (sv b)] (.one (iv (cmpS a b))) := LFun.of fun S => by
  have hD : TabOK G.P D := by rw [hP]; exact hD0
  refine LCalls.enter (fn := Try.f54) (by rw [hP]; exact Try.func54) rfl rfl ?_
  repeat (first | refine LOps.val (LVal.cmpExt rfl (by rw [hP]; exact Try.func55) (by kernel_rfl) (by kernel_rfl) (by kernel_rfl) (by kernel_rfl) rfl rfl) rfl rfl rfl ?_ | refine LOps.nil ?_ | refine andThen_normal ?_ | refine andThen_exit ?_ | refine andThen_ret ?_ | refine inBlock_normal ?_ | refine inBlock_ret ?_ | refine inBlock_here ?_ | refine inBlock_out rfl ?_ | refine LWp.seq ?_ | refine LWp.region ?_ | refine LWp.block ?_ | refine LWp.exit ?_ | refine LWp.ret ?_ | refine LWp.skip ?_ | refine LOps.valA ?_ | refine LOps.outA ?_ | refine LOps.whenA ?_ | refine LOps.pickA ?_ | refine LOps.storeA ?_)
  exact ⟨_, LRes.one rfl, rfl, .refl _⟩
theorem cmp2_F {G : Ctx} (hP : G.P = Try.prog) (a b : ByteArray) : LFun G 50 [.one (sv a), .one (sv b)] (.one (iv (cmpS a b))) := LFun.of fun S => by
  have hD : TabOK G.P D := by rw [hP]; exact hD0
  refine LCalls.enter (fn := Try.f50) (by rw [hP]; exact Try.func50) rfl rfl ?_
  repeat (first | refine LOps.nil ?_ | refine andThen_normal ?_ | refine andThen_exit ?_ | refine andThen_ret ?_ | refine inBlock_normal ?_ | refine inBlock_ret ?_ | refine inBlock_here ?_ | refine inBlock_out rfl ?_ | refine LWp.seq ?_ | refine LWp.region ?_ | refine LWp.block ?_ | refine LWp.exit ?_ | refine LWp.ret ?_ | refine LWp.skip ?_ | refine LOps.val (LVal.call rfl rfl (by rw [hP]; exact Try.func54) rfl (by decide) (cmp1_F hP a b)) rfl rfl rfl ?_ | refine LOps.whenC (LVal.call rfl rfl (by rw [hP]; exact Try.func54) rfl (by decide) (cmp1_F hP a b)) ?_ | refine LOps.valA ?_ | refine LOps.outA ?_ | refine LOps.whenA ?_ | refine LOps.pickA ?_ | refine LOps.storeA ?_)
  exact ⟨_, LRes.one rfl, rfl, .refl _⟩
theorem cmp_F {G : Ctx} (hP : G.P = Try.prog) (a b : ByteArray) : LFun G 38 [.one (sv a), .one (sv b)] (.one (iv (cmpS a b))) := LFun.of fun S => by
  have hD : TabOK G.P D := by rw [hP]; exact hD0
  refine LCalls.enter (fn := Try.f38) (by rw [hP]; exact Try.func38) rfl rfl ?_
  repeat (first | refine LOps.nil ?_ | refine andThen_normal ?_ | refine andThen_exit ?_ | refine andThen_ret ?_ | refine inBlock_normal ?_ | refine inBlock_ret ?_ | refine inBlock_here ?_ | refine inBlock_out rfl ?_ | refine LWp.seq ?_ | refine LWp.region ?_ | refine LWp.block ?_ | refine LWp.exit ?_ | refine LWp.ret ?_ | refine LWp.skip ?_ | refine LOps.val (LVal.call rfl rfl (by rw [hP]; exact Try.func50) rfl (by decide) (cmp2_F hP a b)) rfl rfl rfl ?_ | refine LOps.whenC (LVal.call rfl rfl (by rw [hP]; exact Try.func50) rfl (by decide) (cmp2_F hP a b)) ?_ | refine LOps.valA ?_ | refine LOps.outA ?_ | refine LOps.whenA ?_ | refine LOps.pickA ?_ | refine LOps.storeA ?_)
  exact ⟨_, LRes.one rfl, rfl, .refl _⟩
end Go.Proofs.Ytkjbdldjfjkneaa.LF
