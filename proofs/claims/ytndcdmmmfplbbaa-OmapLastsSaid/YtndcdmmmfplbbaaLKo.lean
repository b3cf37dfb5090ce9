/- cmp.Compare of texts over the frame. (Its head printed by gen_cmp.sh out of XLKa.) -/
import Derived.Test.YtndcdmmmfplbbaaLGc
import Derived.Test.YtndcdmmmfplbbaaLGa
import Derived.Test.YtndcdmmmfplbbaaLFtab
import Derived.Test.YtndcdmmmfplbbaaKeysM
import Derived.Laws.Externs
set_option linter.unusedVariables false
set_option linter.unusedSimpArgs false
namespace Go.Proofs.Ytndcdmmmfplbbaa.LF
open Go.RowKit
open Go.Lib (compareBytes)
set_option linter.unusedVariables false


/-- The order of texts. -/
def cmpS (a b : ByteArray) : Int := compareBytes a.data.toList b.data.toList
def ltS (a b : ByteArray) : Bool := ltB a.data.toList b.data.toList

theorem cmpS_eq (a b : ByteArray) : cmpS a b = if ltS a b = true then -1 else if ltS b a = true then 1 else 0 := by
  unfold cmpS ltS
  rw [cmp_eq_if]; simp [ltB]
theorem ltS_irrefl (a : ByteArray) : ltS a a = false := ltB_no (List.lt_irrefl _)
theorem ltS_trans {a b c : ByteArray} (h : ltS a b = true) (k : ltS b c = true) : ltS a c = true := by
  simp only [ltS, ltB, decide_eq_true_eq] at *
  exact List.lt_trans h k
theorem ltS_asymm {a b : ByteArray} (h : ltS a b = true) : ltS b a = false := by
  cases hb : ltS b a with
  | false => rfl
  | true => have := ltS_trans h hb; rw [ltS_irrefl] at this; cases this
theorem ba_toList {a b : ByteArray} (h : a.data.toList = b.data.toList) : a = b := by
  apply ByteArray.ext
  exact Array.toList_inj.1 h
theorem ltS_total {a b : ByteArray} (h : ltS a b = false) (k : ltS b a = false) : a = b := by
  simp only [ltS, ltB, decide_eq_false_iff_not] at *
  exact ba_toList (List.le_antisymm (List.not_lt.1 k) (List.not_lt.1 h))
theorem cmpS_lt {a b : ByteArray} : cmpS a b < 0 ↔ ltS a b = true := by
  rw [cmpS_eq]; split
  · simp [*]
  · split <;> simp [*]
theorem cmpS_zero {a b : ByteArray} : cmpS a b = 0 ↔ a = b := by
  rw [cmpS_eq]
  constructor
  · intro h
    split at h
    · cases h
    · rename_i h1
      split at h
      · cases h
      · rename_i h2
        exact ltS_total (by simpa using h1) (by simpa using h2)
  · rintro rfl
    rw [ltS_irrefl]; simp
theorem cmpS_ge {a b : ByteArray} : cmpS a b ≥ 0 ↔ ltS a b = false := by
  rw [ge_iff_le, ← Int.not_lt, cmpS_lt]; simp

theorem bytesLess_ltS : ∀ (x y : List UInt8), Op.bytesLess x y = ltB x y
  | [], [] => by simp [Op.bytesLess, ltB]
  | _ :: _, [] => by simp [Op.bytesLess, ltB]
  | [], _ :: _ => by simp [Op.bytesLess, ltB]
  | a :: x, b :: y => by
    rw [Op.bytesLess, bytesLess_ltS x y]
    simp only [ltB, List.cons_lt_cons_iff]
    by_cases h1 : a < b <;> by_cases h2 : a = b <;> by_cases h3 : x < y <;> simp [h1, h2, h3]
theorem lessStr (a b : ByteArray) : Op.bytesLess a.toList b.toList = ltS a b := by rw [bytesLess_ltS, Lib.toList_data, Lib.toList_data]; rfl
theorem sameStr (a b : ByteArray) : (a.toList == b.toList) = decide (a = b) := toList_eq
theorem LVal.lssStr {G : Ctx} {D : Tab} (hD : TabOK G.P D) {o : Oper} {T : Nat → TV} {S : LS} {t u : TypeId} {x y : Operand} {a b : ByteArray} (ho : o.op = .binOp .lss t x y u) (hx : lev T x = .one (.v (.string a))) (hy : lev T y = .one (.v (.string b))) : LVal G o T S (.one (bv (ltS a b))) :=
  LVal.to (LVal.binOp hD ho hx hy (v := .bool (Op.bytesLess a.toList b.toList)) rfl) (by rw [lessStr])
theorem LVal.gtrStr {G : Ctx} {D : Tab} (hD : TabOK G.P D) {o : Oper} {T : Nat → TV} {S : LS} {t u : TypeId} {x y : Operand} {a b : ByteArray} (ho : o.op = .binOp .gtr t x y u) (hx : lev T x = .one (.v (.string a))) (hy : lev T y = .one (.v (.string b))) : LVal G o T S (.one (bv (ltS b a))) :=
  LVal.to (LVal.binOp hD ho hx hy (v := .bool !(Op.bytesLess a.toList b.toList || a.toList == b.toList)) rfl) (by
    rw [lessStr, sameStr]
    congr 3
    cases h : ltS a b with
    | true => rw [ltS_asymm h]; rfl
    | false =>
      cases k : ltS b a with
      | true =>
        have : a ≠ b := fun e => by rw [e, ltS_irrefl] at k; cases k
        simp [this]
      | false => simp [ltS_total h k])

theorem isNaN_F {G : Ctx} (hP : G.P = Try.prog) (a : ByteArray) : LFun G 47 [.one (sv a)] (.one (bv false)) := LFun.of fun S => by
  have hD : TabOK G.P D := by rw [hP]; exact hD0
  refine LCalls.enter (fn := Try.f47) (by rw [hP]; exact Try.func47) rfl rfl ?_
  repeat (first | refine LOps.nil ?_ | refine andThen_normal ?_ | refine andThen_exit ?_ | refine andThen_ret ?_ | refine inBlock_normal ?_ | refine inBlock_ret ?_ | refine inBlock_here ?_ | refine inBlock_out rfl ?_ | refine LWp.seq ?_ | refine LWp.region ?_ | refine LWp.block ?_ | refine LWp.exit ?_ | refine LWp.ret ?_ | refine LWp.skip ?_ | refine LOps.valA ?_ | refine LOps.outA ?_ | refine LOps.whenA ?_ | refine LOps.pickA ?_ | refine LOps.storeA ?_)
  exact ⟨_, LRes.one rfl, by show TV.one (bv (!decide (a = a))) = _; simp, .refl _⟩
theorem cmp_F {G : Ctx} (hP : G.P = Try.prog) (a b : ByteArray) : LFun G 43 [.one (sv a), .one (sv b)] (.one (iv (cmpS a b))) := LFun.of fun S => by
  have hD : TabOK G.P D := by rw [hP]; exact hD0
  refine LCalls.enter (fn := Try.f43) (by rw [hP]; exact Try.func43) rfl rfl ?_
  repeat (first | refine LWp.condF rfl ?_ | refine LOps.valH (LVal.lssStr hD rfl rfl rfl) ?_ | refine LOps.valH (LVal.gtrStr hD rfl rfl rfl) ?_ | refine LOps.nil ?_ | refine andThen_normal ?_ | refine andThen_exit ?_ | refine andThen_ret ?_ | refine inBlock_normal ?_ | refine inBlock_ret ?_ | refine inBlock_here ?_ | refine inBlock_out rfl ?_ | refine LWp.seq ?_ | refine LWp.region ?_ | refine LWp.block ?_ | refine LWp.exit ?_ | refine LWp.ret ?_ | refine LWp.skip ?_ | refine LOps.val (LVal.call rfl rfl (by rw [hP]; exact Try.func47) rfl (by decide) (isNaN_F hP _)) rfl rfl rfl ?_ | refine LOps.whenC (LVal.call rfl rfl (by rw [hP]; exact Try.func47) rfl (by decide) (isNaN_F hP _)) ?_ | refine LOps.valA ?_ | refine LOps.outA ?_ | refine LOps.whenA ?_ | refine LOps.pickA ?_ | refine LOps.storeA ?_)
  refine LWp.cond rfl (fun h => ?_) (fun h => ?_)
  · have h : ltS a b = true := h
    repeat (first | refine LOps.nil ?_ | refine andThen_normal ?_ | refine andThen_exit ?_ | refine andThen_ret ?_ | refine inBlock_normal ?_ | refine inBlock_ret ?_ | refine inBlock_here ?_ | refine inBlock_out rfl ?_ | refine LWp.seq ?_ | refine LWp.region ?_ | refine LWp.block ?_ | refine LWp.exit ?_ | refine LWp.ret ?_ | refine LWp.skip ?_ | refine LOps.valA ?_ | refine LOps.outA ?_ | refine LOps.whenA ?_ | refine LOps.pickA ?_ | refine LOps.storeA ?_)
    exact ⟨_, LRes.one rfl, by rw [cmpS_eq, if_pos h]; rfl, .refl _⟩
  have h : ltS a b = false := h
  repeat (first | refine LOps.valH (LVal.gtrStr hD rfl rfl rfl) ?_ | refine LOps.nil ?_ | refine andThen_normal ?_ | refine andThen_exit ?_ | refine andThen_ret ?_ | refine inBlock_normal ?_ | refine inBlock_ret ?_ | refine inBlock_here ?_ | refine inBlock_out rfl ?_ | refine LWp.seq ?_ | refine LWp.region ?_ | refine LWp.block ?_ | refine LWp.exit ?_ | refine LWp.ret ?_ | refine LWp.skip ?_ | refine LOps.valA ?_ | refine LOps.outA ?_ | refine LOps.whenA ?_ | refine LOps.pickA ?_ | refine LOps.storeA ?_)
  refine LWp.cond rfl (fun k => ?_) (fun k => ?_)
  · have k : ltS b a = true := k
    repeat (first | refine LOps.nil ?_ | refine andThen_normal ?_ | refine andThen_exit ?_ | refine andThen_ret ?_ | refine inBlock_normal ?_ | refine inBlock_ret ?_ | refine inBlock_here ?_ | refine inBlock_out rfl ?_ | refine LWp.seq ?_ | refine LWp.region ?_ | refine LWp.block ?_ | refine LWp.exit ?_ | refine LWp.ret ?_ | refine LWp.skip ?_ | refine LOps.valA ?_ | refine LOps.outA ?_ | refine LOps.whenA ?_ | refine LOps.pickA ?_ | refine LOps.storeA ?_)
    exact ⟨_, LRes.one rfl, by rw [cmpS_eq, if_neg (by rw [h]; decide), if_pos k]; rfl, .refl _⟩
  have k : ltS b a = false := k
  repeat (first | refine LOps.nil ?_ | refine andThen_normal ?_ | refine andThen_exit ?_ | refine andThen_ret ?_ | refine inBlock_normal ?_ | refine inBlock_ret ?_ | refine inBlock_here ?_ | refine inBlock_out rfl ?_ | refine LWp.seq ?_ | refine LWp.region ?_ | refine LWp.block ?_ | refine LWp.exit ?_ | refine LWp.ret ?_ | refine LWp.skip ?_ | refine LOps.valA ?_ | refine LOps.outA ?_ | refine LOps.whenA ?_ | refine LOps.pickA ?_ | refine LOps.storeA ?_)
  exact ⟨_, LRes.one rfl, by rw [cmpS_eq, if_neg (by rw [h]; decide), if_neg (by rw [k]; decide)]; rfl, .refl _⟩
end Go.Proofs.Ytndcdmmmfplbbaa.LF
