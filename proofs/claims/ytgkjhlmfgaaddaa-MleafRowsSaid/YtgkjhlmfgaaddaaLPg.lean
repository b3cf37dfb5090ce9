/- Parts of the frame, one behind the other: LKa LKl1 LPa LPb LPc LPd LPe. (Printed by merge.py.) -/
import Derived.Test.YtgkjhlmfgaaddaaLGc
import Derived.Test.YtgkjhlmfgaaddaaLGa
import Derived.Test.YtgkjhlmfgaaddaaLFtab
import Derived.Test.YtgkjhlmfgaaddaaKG
import Derived.Laws.Externs
import Derived.Test.YtgkjhlmfgaaddaaPG
set_option linter.unusedVariables false
set_option linter.unusedSimpArgs false
section
/- keys.Compare over the frame (any seat that has it); short names of cells. -/
namespace Go.Proofs.Ytgkjhlmfgaaddaa.LF
open Go.RowKit
open Go.Lib (compareBytes)
set_option linter.unusedVariables false


/-- The order of texts. -/
def cmpS (a b : ByteArray) : Int := compareBytes a.data.toList b.data.toList
def ltS (a b : ByteArray) : Bool := ltB a.data.toList b.data.toList

theorem cmpS_eq (a b : ByteArray) : cmpS a b = if ltS a b = true then -1 else if ltS b a = true then 1 else 0 := by
  unfold cmpS ltS
  rw [cmp_eq_if]; simp [ltB]
theorem ltS_irrefl (a : ByteArray) : ltS a a = false := ltB_no (List.lt_irrefl _)
theorem ltS_trans {a b c : ByteArray} (h : ltS a b = true) (k : ltS b c = true) : ltS a c = true := by
  simp only [ltS, ltB, decide_eq_true_eq] at *
  exact List.lt_trans h k
theorem ltS_asymm {a b : ByteArray} (h : ltS a b = true) : ltS b a = false := by
  cases hb : ltS b a with
  | false => rfl
  | true => have := ltS_trans h hb; rw [ltS_irrefl] at this; cases this
theorem ba_toList {a b : ByteArray} (h : a.data.toList = b.data.toList) : a = b := by
  apply ByteArray.ext
  exact Array.toList_inj.1 h
theorem ltS_total {a b : ByteArray} (h : ltS a b = false) (k : ltS b a = false) : a = b := by
  simp only [ltS, ltB, decide_eq_false_iff_not] at *
  exact ba_toList (List.le_antisymm (List.not_lt.1 k) (List.not_lt.1 h))
theorem cmpS_lt {a b : ByteArray} : cmpS a b < 0 ↔ ltS a b = true := by
  rw [cmpS_eq]; split
  · simp [*]
  · split <;> simp [*]
theorem cmpS_zero {a b : ByteArray} : cmpS a b = 0 ↔ a = b := by
  rw [cmpS_eq]
  constructor
  · intro h
    split at h
    · cases h
    · rename_i h1
      split at h
      · cases h
      · rename_i h2
        exact ltS_total (by simpa using h1) (by simpa using h2)
  · rintro rfl
    rw [ltS_irrefl]; simp
theorem cmpS_ge {a b : ByteArray} : cmpS a b ≥ 0 ↔ ltS a b = false := by
  rw [ge_iff_le, ← Int.not_lt, cmpS_lt]; simp

theorem LVal.cmpExt {G : Ctx} {o : Oper} {T : Nat → TV} {S : LS} {x y : Operand} {f : FuncId} {fn : Func} {ts : Array TypeId} {a b : ByteArray} (ho : o.op = .call { callee := .value (.func f), args := #[x, y], argTypes := ts })
    (hf : G.P.funcs[f]? = some fn) (hname : (fn.name == "runtime.NumGoroutine") = false) (hbn : fn.body.isNone = true) (hnx : Extern.findNext fn = none) (hfe : Extern.find fn = some Extern.BytealgCompare.compare)
    (hx : lev T x = .one (.v (.string a))) (hy : lev T y = .one (.v (.string b))) : LVal G o T S (.one (iv (cmpS a b))) :=
  .of_run fun K w ac hi' hr => by
    have h1 := hr x (by rw [ho]; simp [Op.operands, Call.operands])
    have h2 := hr y (by rw [ho]; simp [Op.operands, Call.operands])
    rw [hx] at h1
    rw [hy] at h2
    have hcall := run_callFunc_extern (f := f) hf hname hbn hnx hfe #[.string a, .string b] w
    rw [Lib.run_compareString] at hcall
    refine ⟨_, ?_, .raw rfl⟩
    simp only [Result.andThen_ok] at hcall
    have key : (execOp ac.eval o).run G.P w = (callFunc f #[ac.eval x, ac.eval y]).run G.P w := by simp [execOp, ho, resolve, Act.eval, Deferred.ofValue, invoke]
    rw [key, h1.flat, h2.flat, hcall]
    rfl

theorem cmp1_F {G : Ctx} (hP : G.P = Try.prog) (a b : ByteArray) : LFun G 64 [.one (sv a), .one (sv b)] (.one (iv (cmpS a b))) := LFun.of fun S => by
  have hD : TabOK G.P D := by rw [hP]; exact hD0
  refine LCalls.enter (fn := Try.f64) (by rw [hP]; exact Try.func64) rfl rfl ?_
  repeat (first | refine LOps.val (LVal.cmpExt rfl (by rw [hP]; exact Try.func66) (by kernel_rfl) (by kernel_rfl) (by kernel_rfl) (by kernel_rfl) rfl rfl) rfl rfl rfl ?_ | refine LOps.nil ?_ | refine andThen_normal ?_ | refine andThen_exit ?_ | refine andThen_ret ?_ | refine inBlock_normal ?_ | refine inBlock_ret ?_ | refine inBlock_here ?_ | refine inBlock_out rfl ?_ | refine LWp.seq ?_ | refine LWp.region ?_ | refine LWp.block ?_ | refine LWp.exit ?_ | refine LWp.ret ?_ | refine LWp.skip ?_ | refine LOps.valA ?_ | refine LOps.outA ?_ | refine LOps.whenA ?_ | refine LOps.pickA ?_ | refine LOps.storeA ?_)
  exact ⟨_, LRes.one rfl, rfl, .refl _⟩
theorem cmp2_F {G : Ctx} (hP : G.P = Try.prog) (a b : ByteArray) : LFun G 55 [.one (sv a), .one (sv b)] (.one (iv (cmpS a b))) := LFun.of fun S => by
  have hD : TabOK G.P D := by rw [hP]; exact hD0
  refine LCalls.enter (fn := Try.f55) (by rw [hP]; exact Try.func55) rfl rfl ?_
  repeat (first | refine LOps.nil ?_ | refine andThen_normal ?_ | refine andThen_exit ?_ | refine andThen_ret ?_ | refine inBlock_normal ?_ | refine inBlock_ret ?_ | refine inBlock_here ?_ | refine inBlock_out rfl ?_ | refine LWp.seq ?_ | refine LWp.region ?_ | refine LWp.block ?_ | refine LWp.exit ?_ | refine LWp.ret ?_ | refine LWp.skip ?_ | refine LOps.val (LVal.call rfl rfl (by rw [hP]; exact Try.func64) rfl (by decide) (cmp1_F hP a b)) rfl rfl rfl ?_ | refine LOps.whenC (LVal.call rfl rfl (by rw [hP]; exact Try.func64) rfl (by decide) (cmp1_F hP a b)) ?_ | refine LOps.valA ?_ | refine LOps.outA ?_ | refine LOps.whenA ?_ | refine LOps.pickA ?_ | refine LOps.storeA ?_)
  exact ⟨_, LRes.one rfl, rfl, .refl _⟩
theorem cmp_F {G : Ctx} (hP : G.P = Try.prog) (a b : ByteArray) : LFun G 36 [.one (sv a), .one (sv b)] (.one (iv (cmpS a b))) := LFun.of fun S => by
  have hD : TabOK G.P D := by rw [hP]; exact hD0
  refine LCalls.enter (fn := Try.f36) (by rw [hP]; exact Try.func36) rfl rfl ?_
  repeat (first | refine LOps.nil ?_ | refine andThen_normal ?_ | refine andThen_exit ?_ | refine andThen_ret ?_ | refine inBlock_normal ?_ | refine inBlock_ret ?_ | refine inBlock_here ?_ | refine inBlock_out rfl ?_ | refine LWp.seq ?_ | refine LWp.region ?_ | refine LWp.block ?_ | refine LWp.exit ?_ | refine LWp.ret ?_ | refine LWp.skip ?_ | refine LOps.val (LVal.call rfl rfl (by rw [hP]; exact Try.func55) rfl (by decide) (cmp2_F hP a b)) rfl rfl rfl ?_ | refine LOps.whenC (LVal.call rfl rfl (by rw [hP]; exact Try.func55) rfl (by decide) (cmp2_F hP a b)) ?_ | refine LOps.valA ?_ | refine LOps.outA ?_ | refine LOps.whenA ?_ | refine LOps.pickA ?_ | refine LOps.storeA ?_)
  exact ⟨_, LRes.one rfl, rfl, .refl _⟩
end Go.Proofs.Ytgkjhlmfgaaddaa.LF
end

section
/- The document's Less over the frame. (Printed by gen_less.sh.) -/
namespace Go.Proofs.Ytgkjhlmfgaaddaa.LF
open Go.RowKit
set_option linter.unusedVariables false

theorem ba_len (a : ByteArray) : a.data.toList.length = a.size := by simp
theorem ba_get (a : ByteArray) (k : Nat) (h : k < a.size) : a.data.toList[k]? = some a[k] := by
  simp only [Array.getElem?_toList]
  exact getElem?_pos a.data k h
theorem part_lt {a b : ByteArray} {k : Nat} (ha : k < a.size) (hb : k < b.size) (hk : k ≤ com a.data.toList b.data.toList) (h : a.data.toList[k]? ≠ b.data.toList[k]?) :
    ltS a b = decide (a[k].toNat < b[k].toNat) := by
  have hc : com a.data.toList b.data.toList = k := com_eq _ _ k (by simpa using Nat.le_of_lt ha) (by simpa using Nat.le_of_lt hb) (fun i hi => com_get _ _ i (by omega)) (.inr (.inr h))
  rw [Bool.eq_iff_iff, ltS, ltB, decide_eq_true_iff, decide_eq_true_iff, lt_com, hc, ba_get a k ha, ba_get b k hb, ba_len, ba_len]
  simp only [Option.getD_some, UInt8.lt_iff_toNat_lt]
  omega
theorem end_lt {a b : ByteArray} {k : Nat} (hk : k ≤ com a.data.toList b.data.toList) (h : a.size ≤ k ∨ b.size ≤ k) :
    ltS a b = decide (a.size < b.size) := by
  have h1 := com_le_l a.data.toList b.data.toList
  have h2 := com_le_r a.data.toList b.data.toList
  rw [ba_len] at h1 h2
  rw [Bool.eq_iff_iff, ltS, ltB, decide_eq_true_iff, decide_eq_true_iff, lt_com, ba_len, ba_len]
  constructor
  · rintro ⟨h3, _⟩; omega
  · intro h3; exact ⟨by omega, .inl (by omega)⟩
theorem ba_at {a : ByteArray} {k : Nat} (h : k < a.size) : a[((k : Nat) : Int).toNat]? = some a[k] := by
  rw [Int.toNat_natCast]; exact getElem?_pos a k h

set_option maxHeartbeats 4000000 in
theorem less_F {G : Ctx} (hP : G.P = Try.prog) (a b : ByteArray) (ha : a.size ≤ 9223372036854775806) (hb : b.size ≤ 9223372036854775806) : LFun G 54 [.one (sv a), .one (sv b)] (.one (bv (ltS a b))) := LFun.of fun S => by
  have hD : TabOK G.P D := by rw [hP]; exact hD0
  refine LCalls.enter (fn := Try.f54) (by rw [hP]; exact Try.func54) rfl rfl ?_
  repeat (first | refine LOps.nil ?_ | refine andThen_normal ?_ | refine andThen_exit ?_ | refine andThen_ret ?_ | refine inBlock_normal ?_ | refine inBlock_ret ?_ | refine inBlock_here ?_ | refine inBlock_out rfl ?_ | refine LWp.seq ?_ | refine LWp.region ?_ | refine LWp.block ?_ | refine LWp.exit ?_ | refine LWp.ret ?_ | refine LWp.skip ?_ | refine LOps.valA ?_ | refine LOps.outA ?_ | refine LOps.whenA ?_ | refine LOps.pickA ?_ | refine LOps.storeA ?_)
  refine LWp.loop (fun m T S' => S' = S ∧ ∃ (T' : Nat → TV) (k : Nat), k ≤ a.size ∧ k ≤ b.size ∧ k ≤ com a.data.toList b.data.toList ∧ m = a.size - k ∧ T = over T' [(0, .one (sv a)), (1, .one (sv b)), (5, .one (iv (k : Nat)))]) a.size ?_ ?_
  · exact ⟨rfl, _, 0, by omega, by omega, by omega, rfl, holds.over ⟨rfl, rfl, rfl, trivial⟩⟩
  rintro m T S' ⟨rfl, T', k, hka, hkb, hkc, rfl, rfl⟩
  repeat (first | refine LOps.nil ?_ | refine andThen_normal ?_ | refine andThen_exit ?_ | refine andThen_ret ?_ | refine inBlock_normal ?_ | refine inBlock_ret ?_ | refine inBlock_here ?_ | refine inBlock_out rfl ?_ | refine LWp.seq ?_ | refine LWp.region ?_ | refine LWp.block ?_ | refine LWp.exit ?_ | refine LWp.ret ?_ | refine LWp.skip ?_ | refine LOps.valA ?_ | refine LOps.outA ?_ | refine LOps.whenA ?_ | refine LOps.pickA ?_ | refine LOps.storeA ?_)
  refine LWp.cond rfl (fun h => ?_) (fun h => ?_)
  · have h : (decide ((k : Int) < (a.size : Int)) && decide ((k : Int) < (b.size : Int))) = true := h
    rw [Bool.and_eq_true, decide_eq_true_eq, decide_eq_true_eq] at h
    have h1 : k < a.size := by omega
    have h2 : k < b.size := by omega
    have i1 := ba_at h1
    have i2 := ba_at h2
    repeat (first | refine LOps.nil ?_ | refine andThen_normal ?_ | refine andThen_exit ?_ | refine andThen_ret ?_ | refine inBlock_normal ?_ | refine inBlock_ret ?_ | refine inBlock_here ?_ | refine inBlock_out rfl ?_ | refine LWp.seq ?_ | refine LWp.region ?_ | refine LWp.block ?_ | refine LWp.exit ?_ | refine LWp.ret ?_ | refine LWp.skip ?_ | refine LOps.valA ?_ | refine LOps.outA ?_ | refine LOps.whenA ?_ | refine LOps.pickA ?_ | refine LOps.storeA ?_)
    refine LWp.drawL [0, 1, 2, 3, 4, 5, 6] (by rw [hP]; rfl) rfl ?_
    repeat (first | refine LRl.val (fun _ _ => LVal.indexStr hD rfl rfl rfl rfl rfl (by omega) (by first | exact i1 | exact i2)) rfl rfl rfl ?_ | refine LRl.nil ?_ | refine LRl.valA ?_ | refine LRl.outA ?_ | refine LRl.whenA ?_ | refine LRl.pickA ?_)
    repeat (first | refine LOps.nil ?_ | refine andThen_normal ?_ | refine andThen_exit ?_ | refine andThen_ret ?_ | refine inBlock_normal ?_ | refine inBlock_ret ?_ | refine inBlock_here ?_ | refine inBlock_out rfl ?_ | refine LWp.seq ?_ | refine LWp.region ?_ | refine LWp.block ?_ | refine LWp.exit ?_ | refine LWp.ret ?_ | refine LWp.skip ?_ | refine LOps.valA ?_ | refine LOps.outA ?_ | refine LOps.whenA ?_ | refine LOps.pickA ?_ | refine LOps.storeA ?_)
    refine LWp.cond rfl (fun h => ?_) (fun h => ?_)
    · have h : (!((a[k].toNat : Int) == (b[k].toNat : Int))) = true := h
      have hne : a.data.toList[k]? ≠ b.data.toList[k]? := by
        rw [ba_get a k h1, ba_get b k h2]
        intro e
        rw [Option.some.inj e] at h
        simp at h
      have hp := part_lt h1 h2 hkc hne
      repeat (first | refine LOps.nil ?_ | refine andThen_normal ?_ | refine andThen_exit ?_ | refine andThen_ret ?_ | refine inBlock_normal ?_ | refine inBlock_ret ?_ | refine inBlock_here ?_ | refine inBlock_out rfl ?_ | refine LWp.seq ?_ | refine LWp.region ?_ | refine LWp.block ?_ | refine LWp.exit ?_ | refine LWp.ret ?_ | refine LWp.skip ?_ | refine LOps.valA ?_ | refine LOps.outA ?_ | refine LOps.whenA ?_ | refine LOps.pickA ?_ | refine LOps.storeA ?_)
      refine LWp.drawL [0, 1, 2, 3, 4, 5, 6, 7] (by rw [hP]; rfl) rfl ?_
      repeat (first | refine LRl.val (fun _ _ => LVal.indexStr hD rfl rfl rfl rfl rfl (by omega) (by first | exact i1 | exact i2)) rfl rfl rfl ?_ | refine LRl.nil ?_ | refine LRl.valA ?_ | refine LRl.outA ?_ | refine LRl.whenA ?_ | refine LRl.pickA ?_)
      repeat (first | refine LOps.nil ?_ | refine andThen_normal ?_ | refine andThen_exit ?_ | refine andThen_ret ?_ | refine inBlock_normal ?_ | refine inBlock_ret ?_ | refine inBlock_here ?_ | refine inBlock_out rfl ?_ | refine LWp.seq ?_ | refine LWp.region ?_ | refine LWp.block ?_ | refine LWp.exit ?_ | refine LWp.ret ?_ | refine LWp.skip ?_ | refine LOps.valA ?_ | refine LOps.outA ?_ | refine LOps.whenA ?_ | refine LOps.pickA ?_ | refine LOps.storeA ?_)
      refine ⟨_, LRes.one rfl, ?_, .refl _⟩
      show TV.one (bv (decide ((a[k].toNat : Int) < (b[k].toNat : Int)))) = _
      have e : decide ((a[k].toNat : Int) < (b[k].toNat : Int)) = ltS a b := by
        rw [hp, Bool.eq_iff_iff, decide_eq_true_iff, decide_eq_true_iff]; omega
      rw [e]
    · have h : (!((a[k].toNat : Int) == (b[k].toNat : Int))) = false := h
      have he : a.data.toList[k]? = b.data.toList[k]? := by
        rw [ba_get a k h1, ba_get b k h2]
        simp at h
        have : a[k] = b[k] := UInt8.toNat_inj.1 (by omega)
        rw [this]
      repeat (first | refine LOps.nil ?_ | refine andThen_normal ?_ | refine andThen_exit ?_ | refine andThen_ret ?_ | refine inBlock_normal ?_ | refine inBlock_ret ?_ | refine inBlock_here ?_ | refine inBlock_out rfl ?_ | refine LWp.seq ?_ | refine LWp.region ?_ | refine LWp.block ?_ | refine LWp.exit ?_ | refine LWp.ret ?_ | refine LWp.skip ?_ | refine LOps.valA ?_ | refine LOps.outA ?_ | refine LOps.whenA ?_ | refine LOps.pickA ?_ | refine LOps.storeA ?_)
      exact ⟨a.size - (k + 1), by omega, rfl, _, k + 1, by omega, by omega, com_succ _ _ k (by simpa using h1) (by simpa using h2) hkc he, rfl, holds.over ⟨rfl, rfl, rfl, trivial⟩⟩
  · have h : (decide ((k : Int) < (a.size : Int)) && decide ((k : Int) < (b.size : Int))) = false := h
    have hend := end_lt hkc (show a.size ≤ k ∨ b.size ≤ k by
      rw [Bool.and_eq_false_iff, decide_eq_false_iff_not, decide_eq_false_iff_not] at h; omega)
    repeat (first | refine LOps.nil ?_ | refine andThen_normal ?_ | refine andThen_exit ?_ | refine andThen_ret ?_ | refine inBlock_normal ?_ | refine inBlock_ret ?_ | refine inBlock_here ?_ | refine inBlock_out rfl ?_ | refine LWp.seq ?_ | refine LWp.region ?_ | refine LWp.block ?_ | refine LWp.exit ?_ | refine LWp.ret ?_ | refine LWp.skip ?_ | refine LOps.valA ?_ | refine LOps.outA ?_ | refine LOps.whenA ?_ | refine LOps.pickA ?_ | refine LOps.storeA ?_)
    refine ⟨_, LRes.one rfl, ?_, .refl _⟩
    show TV.one (bv (decide ((a.size : Int) < (b.size : Int)))) = _
    have e : decide ((a.size : Int) < (b.size : Int)) = ltS a b := by
      rw [hend, Bool.eq_iff_iff, decide_eq_true_iff, decide_eq_true_iff]; omega
    rw [e]
end Go.Proofs.Ytgkjhlmfgaaddaa.LF
end

section
/- The document's words (marshallingref13), over the frame: has, Of. -/
namespace Go.Proofs.Ytgkjhlmfgaaddaa.LF
open Go.RowKit






set_option maxHeartbeats 400000 in
theorem has_L {G : Ctx} (hP : G.P = Try.prog) (xs : List Int) (n : Int) (hx : xs.length ≤ 1000000) (S : LS) :
    LCalls G 62 [.one (.sl .sh (xs.map fun x => [iv x])), .one (iv n)] (fun r S' => r = .one (.v (.bool (decide (n ∈ xs)))) ∧ S.le S') S := by
  have hD : TabOK G.P D := by rw [hP]; exact hD0
  refine LCalls.enter (fn := Try.f62) (by rw [hP]; exact Try.func62) rfl rfl ?_
  repeat (first | refine LOps.nil ?_ | refine andThen_normal ?_ | refine andThen_exit ?_ | refine andThen_ret ?_ | refine inBlock_normal ?_ | refine inBlock_ret ?_ | refine inBlock_here ?_ | refine inBlock_out rfl ?_ | refine LWp.seq ?_ | refine LWp.region ?_ | refine LWp.block ?_ | refine LWp.exit ?_ | refine LWp.ret ?_ | refine LWp.skip ?_ | refine LOps.valA ?_ | refine LOps.outA ?_ | refine LOps.whenA ?_ | refine LOps.pickA ?_ | refine LOps.storeA ?_)
  refine LWp.loop (fun k T S' => S' = S ∧ ∃ T' j, j ≤ xs.length ∧ k = xs.length - j ∧ n ∉ xs.take j ∧ T = over T' [(0, .one (.sl .sh (xs.map fun x => [iv x]))), (1, .one (iv n)), (5, .one (iv j))]) xs.length ?_ ?_
  · exact ⟨rfl, _, 0, by omega, by omega, by simp, holds.over ⟨rfl, rfl, rfl, trivial⟩⟩
  rintro k T S' ⟨rfl, T', j, hj, rfl, hno, rfl⟩
  repeat (first | refine LOps.nil ?_ | refine andThen_normal ?_ | refine andThen_exit ?_ | refine andThen_ret ?_ | refine inBlock_normal ?_ | refine inBlock_ret ?_ | refine inBlock_here ?_ | refine inBlock_out rfl ?_ | refine LWp.seq ?_ | refine LWp.region ?_ | refine LWp.block ?_ | refine LWp.exit ?_ | refine LWp.ret ?_ | refine LWp.skip ?_ | refine LOps.valA ?_ | refine LOps.outA ?_ | refine LOps.whenA ?_ | refine LOps.pickA ?_ | refine LOps.storeA ?_)
  refine LWp.cond rfl (fun h => ?_) (fun h => ?_)
  · have hlt : j < xs.length := by simpa using h
    repeat (first | refine LOps.nil ?_ | refine andThen_normal ?_ | refine andThen_exit ?_ | refine andThen_ret ?_ | refine inBlock_normal ?_ | refine inBlock_ret ?_ | refine inBlock_here ?_ | refine inBlock_out rfl ?_ | refine LWp.seq ?_ | refine LWp.region ?_ | refine LWp.block ?_ | refine LWp.exit ?_ | refine LWp.ret ?_ | refine LWp.skip ?_ | refine LOps.valA ?_ | refine LOps.outA ?_ | refine LOps.whenA ?_ | refine LOps.pickA ?_ | refine LOps.storeA ?_)
    refine LWp.cond rfl (fun h => ?_) (fun h => ?_)
    · repeat (first | refine LOps.nil ?_ | refine andThen_normal ?_ | refine andThen_exit ?_ | refine andThen_ret ?_ | refine inBlock_normal ?_ | refine inBlock_ret ?_ | refine inBlock_here ?_ | refine inBlock_out rfl ?_ | refine LWp.seq ?_ | refine LWp.region ?_ | refine LWp.block ?_ | refine LWp.exit ?_ | refine LWp.ret ?_ | refine LWp.skip ?_ | refine LOps.valA ?_ | refine LOps.outA ?_ | refine LOps.whenA ?_ | refine LOps.pickA ?_ | refine LOps.storeA ?_)
      refine ⟨_, LRes.one rfl, ?_, LS.le.refl _⟩
      have : n ∈ xs := by
        have : xs[j] = n := by simpa using h
        rw [← this]; simp
      simp [this]; rfl
    · repeat (first | refine LOps.nil ?_ | refine andThen_normal ?_ | refine andThen_exit ?_ | refine andThen_ret ?_ | refine inBlock_normal ?_ | refine inBlock_ret ?_ | refine inBlock_here ?_ | refine inBlock_out rfl ?_ | refine LWp.seq ?_ | refine LWp.region ?_ | refine LWp.block ?_ | refine LWp.exit ?_ | refine LWp.ret ?_ | refine LWp.skip ?_ | refine LOps.valA ?_ | refine LOps.outA ?_ | refine LOps.whenA ?_ | refine LOps.pickA ?_ | refine LOps.storeA ?_)
      refine ⟨xs.length - (j + 1), by omega, rfl, _, j + 1, by omega, rfl, ?_, holds.over ⟨rfl, rfl, rfl, trivial⟩⟩
      have : xs[j] ≠ n := by simpa using h
      rw [List.take_succ_eq_append_getElem hlt, List.mem_append, not_or]
      exact ⟨hno, by simpa using Ne.symm this⟩
  · have hge : xs.length ≤ j := by simpa using h
    repeat (first | refine LOps.nil ?_ | refine andThen_normal ?_ | refine andThen_exit ?_ | refine andThen_ret ?_ | refine inBlock_normal ?_ | refine inBlock_ret ?_ | refine inBlock_here ?_ | refine inBlock_out rfl ?_ | refine LWp.seq ?_ | refine LWp.region ?_ | refine LWp.block ?_ | refine LWp.exit ?_ | refine LWp.ret ?_ | refine LWp.skip ?_ | refine LOps.valA ?_ | refine LOps.outA ?_ | refine LOps.whenA ?_ | refine LOps.pickA ?_ | refine LOps.storeA ?_)
    refine ⟨_, LRes.one rfl, ?_, LS.le.refl _⟩
    rw [List.take_of_length_le hge] at hno
    simp [hno]; rfl
abbrev iList (xs : List Nat) : List (List LV) := xs.map fun (x : Nat) => [iv (x : Int)]
theorem has_F {G : Ctx} (hP : G.P = Try.prog) (xs : List Nat) (n : Nat) (hx : xs.length ≤ 1000000) : LFun G 62 [.one (.sl .sh (iList xs)), .one (iv n)] (.one (.v (.bool (decide (n ∈ xs))))) := by
  have := LFun.of (has_L hP (xs.map Nat.cast) n (by simpa using hx))
  rw [List.map_map] at this
  have e : decide ((n : Int) ∈ xs.map Nat.cast) = decide (n ∈ xs) := by
    rw [decide_eq_decide, List.mem_map]
    exact ⟨fun ⟨a, h1, h2⟩ => by rw [← Int.ofNat_inj.1 h2]; exact h1, fun h => ⟨n, h, rfl⟩⟩
  rw [e] at this
  exact this
theorem iList_snoc (xs : List Nat) (x : Nat) : iList (xs ++ [x]) = iList xs ++ [[iv x]] := by simp

/-- What the document's Of answers. -/
def ofR (p : Nat) : TV := if rt (slots p) then .tup [.agg [.sl .sh (iList ((slots p).take (p % 16))), .sl .sh (iList ((slots p).drop (p % 16)))], .one (.v (.bool true))] else .tup [.agg [.sl .sh [], .sl .sh []], .one (.v (.bool false))]

theorem ofR_no {p : Nat} (h : ¬ Rt (slots p)) : ofR p = .tup [.agg [.sl .sh [], .sl .sh []], .one (.v (.bool false))] := by unfold ofR; rw [rt_no h]; rfl
theorem ofR_yes {p : Nat} (h : Rt (slots p)) : ofR p = .tup [.agg [.sl .sh (iList ((slots p).take (p % 16))), .sl .sh (iList ((slots p).drop (p % 16)))], .one (.v (.bool true))] := by unfold ofR; rw [rt_yes h]; rfl

set_option maxHeartbeats 2000000 in
theorem of_L {G : Ctx} (hP : G.P = Try.prog) (p : Nat) (hp : p < 18446744073709551616) (S : LS) :
    LCalls G 50 [.one (.v (.int .u64 p))] (fun r S' => r = ofR p ∧ S.le S') S := by
  have hD : TabOK G.P D := by rw [hP]; exact hD0
  obtain ⟨n, hn⟩ : ∃ n, n = p % 16 := ⟨_, rfl⟩
  have hn16 : n < 16 := by omega
  obtain ⟨L, hL⟩ : ∃ L, L = slots p := ⟨_, rfl⟩
  have hlen : L.length = 15 := by rw [hL]; exact slots_length p
  have hrp := rt_parts p
  rw [← hL] at hrp
  have hget : ∀ k, k < 15 → L[k]? = some (p / 16 ^ (k + 1) % 16) := fun k hk => by rw [hL, slots_get p k hk]; rfl
  refine LCalls.enter (fn := Try.f50) (by rw [hP]; exact Try.func50) rfl rfl ?_
  repeat (first | refine LOps.nil ?_ | refine andThen_normal ?_ | refine andThen_exit ?_ | refine andThen_ret ?_ | refine inBlock_normal ?_ | refine inBlock_ret ?_ | refine inBlock_here ?_ | refine inBlock_out rfl ?_ | refine LWp.seq ?_ | refine LWp.region ?_ | refine LWp.block ?_ | refine LWp.exit ?_ | refine LWp.ret ?_ | refine LWp.skip ?_ | refine LOps.valA ?_ | refine LOps.outA ?_ | refine LOps.whenA ?_ | refine LOps.pickA ?_ | refine LOps.storeA ?_)
  refine LOps.do (LDo.alloc hD rfl rfl rfl) rfl rfl rfl ?_
  rintro _ _ ⟨br, hbr, rfl, rfl⟩
  repeat (first | refine LOps.nil ?_ | refine andThen_normal ?_ | refine andThen_exit ?_ | refine andThen_ret ?_ | refine inBlock_normal ?_ | refine inBlock_ret ?_ | refine inBlock_here ?_ | refine inBlock_out rfl ?_ | refine LWp.seq ?_ | refine LWp.region ?_ | refine LWp.block ?_ | refine LWp.exit ?_ | refine LWp.ret ?_ | refine LWp.skip ?_ | refine LOps.valA ?_ | refine LOps.outA ?_ | refine LOps.whenA ?_ | refine LOps.pickA ?_ | refine LOps.storeA ?_)
  refine LOps.do (LDo.alloc hD rfl rfl rfl) rfl rfl rfl ?_
  rintro _ _ ⟨bw, hbw, rfl, rfl⟩
  have hbw0 : S.box bw = none := by have := hbw.box; rwa [box_new_ne _ _ (fresh_ne hbw (box_new _ _ _)).symm] at this
  repeat (first | refine LOps.nil ?_ | refine andThen_normal ?_ | refine andThen_exit ?_ | refine andThen_ret ?_ | refine inBlock_normal ?_ | refine inBlock_ret ?_ | refine inBlock_here ?_ | refine inBlock_out rfl ?_ | refine LWp.seq ?_ | refine LWp.region ?_ | refine LWp.block ?_ | refine LWp.exit ?_ | refine LWp.ret ?_ | refine LWp.skip ?_ | refine LOps.valA ?_ | refine LOps.outA ?_ | refine LOps.whenA ?_ | refine LOps.pickA ?_ | refine LOps.storeA ?_)
  have hne : br ≠ bw := fresh_ne hbw (box_new _ _ _)
  refine LWp.loop (fun r T S' => ∃ T' k ou of_, k ≤ 15 ∧ r = 15 - k ∧ (L.take k).Nodup ∧ (∀ x ∈ L.take k, x < 15) ∧ S.le S' ∧ S'.box br = some [.sl .nil [], .sl .nil []] ∧
    S'.box bw = some [.sl ou (iList ((L.take k).take n)), .sl of_ (iList ((L.take k).drop n))] ∧ Owned S' 3 ((L.take k).take n).length ou ∧ Owned S' 3 ((L.take k).drop n).length of_ ∧ Out S ou ∧ Out S of_ ∧ (∀ b, ou = .own b → of_ ≠ .own b) ∧
    T = over T' [(0, .one (.v (.int .u64 ((p / 16 ^ k : Nat) : Int)))), (2, .one (.v (.pointer (some ⟨br, 0, none⟩)))), (4, .one (iv n)), (5, .one (.v (.pointer (some ⟨bw, 0, none⟩)))), (6, .one (iv k))]) 15 ?_ ?_
  · refine ⟨_, 0, .nil, .nil, by omega, by omega, by simp, by simp, ((LS.le.refl S).newBox hbr _).newBox hbw _, ?_, ?_, by simp [Owned], by simp [Owned], by simp [Out], by simp [Out], by simp, holds.over ⟨?_, rfl, ?_, rfl, rfl, trivial⟩⟩
    · rw [box_new_ne _ _ hne]; exact box_new _ _ _
    · rw [box_new]; simp [iList]; rfl
    · simp; rfl
    · rw [hn]; rfl
  rintro r T S' ⟨T', k, ou, of_, hk, rfl, hnd, hbd, hle, hb1, hb2, ho1, ho2, hx1, hx2, hdis, rfl⟩
  obtain ⟨q, hq⟩ : ∃ q, q = p / 16 ^ k := ⟨_, rfl⟩
  have hqb : q < 18446744073709551616 := by rw [hq]; exact Nat.lt_of_le_of_lt (Nat.div_le_self _ _) hp
  rw [← hq]
  repeat (first | refine LOps.nil ?_ | refine andThen_normal ?_ | refine andThen_exit ?_ | refine andThen_ret ?_ | refine inBlock_normal ?_ | refine inBlock_ret ?_ | refine inBlock_here ?_ | refine inBlock_out rfl ?_ | refine LWp.seq ?_ | refine LWp.region ?_ | refine LWp.block ?_ | refine LWp.exit ?_ | refine LWp.ret ?_ | refine LWp.skip ?_ | refine LOps.valA ?_ | refine LOps.outA ?_ | refine LOps.whenA ?_ | refine LOps.pickA ?_ | refine LOps.storeA ?_)
  refine LWp.cond rfl (fun h => ?_) (fun h => ?_)
  · have hlt : k < 15 := by have := of_decide_eq_true h; omega
    repeat (first | refine LOps.nil ?_ | refine andThen_normal ?_ | refine andThen_exit ?_ | refine andThen_ret ?_ | refine inBlock_normal ?_ | refine inBlock_ret ?_ | refine inBlock_here ?_ | refine inBlock_out rfl ?_ | refine LWp.seq ?_ | refine LWp.region ?_ | refine LWp.block ?_ | refine LWp.exit ?_ | refine LWp.ret ?_ | refine LWp.skip ?_ | refine LOps.valA ?_ | refine LOps.outA ?_ | refine LOps.whenA ?_ | refine LOps.pickA ?_ | refine LOps.storeA ?_)
    have hx : L[k]? = some (q / 16 % 16) := by rw [hget k hlt, hq, Nat.pow_succ, Nat.div_div_eq_div_mul]
    have hq2 : p / 16 ^ (k + 1) = q / 16 := by rw [hq, Nat.pow_succ, Nat.div_div_eq_div_mul]
    have hbad : ∀ S'' : LS, S''.box br = some [.sl .nil [], .sl .nil []] → S.le S'' → ¬ Rt L → ∀ T, T 2 = .one (.v (.pointer (some ⟨br, 0, none⟩))) → T 3 = .one (.v (.bool false)) → LBody G Try.f50.ntmps Try.f50 (fun r S' => r = ofR p ∧ S.le S') .ret T S'' := by
      intro S'' h1 h2 h3 T h4 h5
      refine ⟨_, (LRes.many rfl rfl (.cons (.cell h4 h1 (hP ▸ tok89) rfl) (.cons (.tmp _) .nil))).sh, ?_, h2⟩
      rw [ofR_no (by rw [← hL]; exact h3), h5]
      rfl
    have htk : L.take (k + 1) = L.take k ++ [q / 16 % 16] := by rw [List.take_add_one, hx]; rfl
    have hnot : q / 16 % 16 ∈ L.take k → ¬ Rt L := fun hm h => by
      have h2 : (L.take (k + 1)).Nodup := List.Nodup.sublist (List.take_sublist _ _) (hrp.1 h).1
      rw [htk, List.nodup_append] at h2
      exact h2.2.2 _ hm _ (by simp) rfl
    repeat (first | refine LOps.nil ?_ | refine andThen_normal ?_ | refine andThen_exit ?_ | refine andThen_ret ?_ | refine inBlock_normal ?_ | refine inBlock_ret ?_ | refine inBlock_here ?_ | refine inBlock_out rfl ?_ | refine LWp.seq ?_ | refine LWp.region ?_ | refine LWp.block ?_ | refine LWp.exit ?_ | refine LWp.ret ?_ | refine LWp.skip ?_ | refine LOps.val (LVal.call rfl rfl (by rw [hP]; exact Try.func62) rfl (by decide) (has_F hP _ (q / 16 % 16) (by simp; omega))) rfl rfl rfl ?_ | refine LOps.whenC (LVal.call rfl rfl (by rw [hP]; exact Try.func62) rfl (by decide) (has_F hP _ (q / 16 % 16) (by simp; omega))) ?_ | refine LOps.valA ?_ | refine LOps.outA ?_ | refine LOps.whenA ?_ | refine LOps.pickA ?_ | refine LOps.storeA ?_)
    refine LWp.cond rfl (fun h => ?_) (fun h => ?_)
    · have h : ((decide (((q / 16 % 16 : Nat) : Int) ≥ 15) || decide (q / 16 % 16 ∈ (L.take k).take n)) || decide (q / 16 % 16 ∈ (L.take k).drop n)) = true := h
      repeat (first | refine LOps.nil ?_ | refine andThen_normal ?_ | refine andThen_exit ?_ | refine andThen_ret ?_ | refine inBlock_normal ?_ | refine inBlock_ret ?_ | refine inBlock_here ?_ | refine inBlock_out rfl ?_ | refine LWp.seq ?_ | refine LWp.region ?_ | refine LWp.block ?_ | refine LWp.exit ?_ | refine LWp.ret ?_ | refine LWp.skip ?_ | refine LOps.valA ?_ | refine LOps.outA ?_ | refine LOps.whenA ?_ | refine LOps.pickA ?_ | refine LOps.storeA ?_)
      refine hbad _ (box_set _ _ _) (hle.setBox (by have := hbr.box; exact this) _) ?_ _ rfl rfl
      simp only [Bool.or_eq_true, decide_eq_true_eq] at h
      rcases h with (h | h) | h
      · intro h2
        have := (hrp.1 h2).2 _ (List.mem_of_getElem? hx)
        omega
      · exact hnot (List.mem_of_mem_take h)
      · exact hnot (List.mem_of_mem_drop h)
    · have h : ((decide (((q / 16 % 16 : Nat) : Int) ≥ 15) || decide (q / 16 % 16 ∈ (L.take k).take n)) || decide (q / 16 % 16 ∈ (L.take k).drop n)) = false := h
      rw [Bool.or_eq_false_iff, Bool.or_eq_false_iff] at h
      obtain ⟨⟨hg, hg2⟩, h⟩ := h
      have hxl : q / 16 % 16 < 15 := by have := of_decide_eq_false hg; omega
      · skip
        · have hxn : q / 16 % 16 ∉ L.take k := fun hm => by
            rw [← List.take_append_drop n (L.take k)] at hm
            rcases List.mem_append.1 hm with hm | hm
            · exact of_decide_eq_false hg2 hm
            · exact of_decide_eq_false h hm
          have hnd' : (L.take (k + 1)).Nodup := by
            rw [htk]
            exact List.nodup_append.2 ⟨hnd, by simp, fun a ha b hb e => by simp at hb; subst hb; subst e; exact hxn ha⟩
          have hbd' : ∀ y ∈ L.take (k + 1), y < 15 := by
            rw [htk]
            intro y hy
            rcases List.mem_append.1 hy with h | h
            · exact hbd y h
            · simp at h; omega
          repeat (first | refine LOps.nil ?_ | refine andThen_normal ?_ | refine andThen_exit ?_ | refine andThen_ret ?_ | refine inBlock_normal ?_ | refine inBlock_ret ?_ | refine inBlock_here ?_ | refine inBlock_out rfl ?_ | refine LWp.seq ?_ | refine LWp.region ?_ | refine LWp.block ?_ | refine LWp.exit ?_ | refine LWp.ret ?_ | refine LWp.skip ?_ | refine LOps.valA ?_ | refine LOps.outA ?_ | refine LOps.whenA ?_ | refine LOps.pickA ?_ | refine LOps.storeA ?_)
          refine LWp.cond rfl (fun h => ?_) (fun h => ?_)
          · have hkn : k < n := by have := of_decide_eq_true h; omega
            repeat (first | refine LOps.nil ?_ | refine andThen_normal ?_ | refine andThen_exit ?_ | refine andThen_ret ?_ | refine inBlock_normal ?_ | refine inBlock_ret ?_ | refine inBlock_here ?_ | refine inBlock_out rfl ?_ | refine LWp.seq ?_ | refine LWp.region ?_ | refine LWp.block ?_ | refine LWp.exit ?_ | refine LWp.ret ?_ | refine LWp.skip ?_ | refine LOps.valA ?_ | refine LOps.outA ?_ | refine LOps.whenA ?_ | refine LOps.pickA ?_ | refine LOps.storeA ?_)
            have E1 : (L.take (k + 1)).take n = (L.take k).take n ++ [q / 16 % 16] := by
              have e1 : (L.take (k + 1)).take n = L.take (k + 1) := List.take_of_length_le (by simp; omega)
              have e2 : (L.take k).take n = L.take k := List.take_of_length_le (by simp; omega)
              rw [e1, e2, htk]
            have E2 : (L.take (k + 1)).drop n = (L.take k).drop n := by rw [List.drop_eq_nil_of_le (by simp; omega), List.drop_eq_nil_of_le (by simp; omega)]
            have hl1 : ((L.take k).take n).length = k := by simp; omega
            refine LOps.do (LDo.append1 hD rfl rfl rfl rfl rfl rfl rfl rfl rfl (by rw [List.length_map]) ho1 (by simp only [hl1]; show (k + 1) * 8 ≤ _; omega) (by omega)) rfl rfl rfl ?_
            rintro _ S1 ⟨o', rfl, hown, hup, hnew⟩
            have hb2' := hup.box _ _ hb2
            have hb1' := hup.box _ _ hb1
            repeat (first | refine LOps.nil ?_ | refine andThen_normal ?_ | refine andThen_exit ?_ | refine andThen_ret ?_ | refine inBlock_normal ?_ | refine inBlock_ret ?_ | refine inBlock_here ?_ | refine inBlock_out rfl ?_ | refine LWp.seq ?_ | refine LWp.region ?_ | refine LWp.block ?_ | refine LWp.exit ?_ | refine LWp.ret ?_ | refine LWp.skip ?_ | refine LOps.valA ?_ | refine LOps.outA ?_ | refine LOps.whenA ?_ | refine LOps.pickA ?_ | refine LOps.storeA ?_)
            refine ⟨15 - (k + 1), by omega, _, k + 1, o', of_, by omega, rfl, hnd', hbd', (hle.upto hup hx1).setBox hbw0 _, ?_, ?_, ?_, ?_, hx1.next hle hnew, hx2, own_apart ho2 hnew hdis, holds.over ⟨?_, rfl, rfl, rfl, rfl, trivial⟩⟩
            · rw [box_set_ne _ _ hne]; exact hb1'
            · rw [box_set, E1, E2, iList_snoc]; rfl
            · rw [E1, List.length_append]; exact hown.setBox
            · rw [E2]; exact (ho2.upto hup hdis).setBox
            · rw [hq2]; rfl
          · have hkn : n ≤ k := by have := of_decide_eq_false h; omega
            repeat (first | refine LOps.nil ?_ | refine andThen_normal ?_ | refine andThen_exit ?_ | refine andThen_ret ?_ | refine inBlock_normal ?_ | refine inBlock_ret ?_ | refine inBlock_here ?_ | refine inBlock_out rfl ?_ | refine LWp.seq ?_ | refine LWp.region ?_ | refine LWp.block ?_ | refine LWp.exit ?_ | refine LWp.ret ?_ | refine LWp.skip ?_ | refine LOps.valA ?_ | refine LOps.outA ?_ | refine LOps.whenA ?_ | refine LOps.pickA ?_ | refine LOps.storeA ?_)
            have E1 : (L.take (k + 1)).take n = (L.take k).take n := by rw [htk, List.take_append_of_le_length (by simp; omega)]
            have E2 : (L.take (k + 1)).drop n = (L.take k).drop n ++ [q / 16 % 16] := by rw [htk, List.drop_append_of_le_length (by simp; omega)]
            have hl2 : ((L.take k).drop n).length = k - n := by simp; omega
            have hdis' : ∀ b, of_ = .own b → ou ≠ .own b := fun b h1 h2 => hdis b h2 h1
            refine LOps.do (LDo.append1 hD rfl rfl rfl rfl rfl rfl rfl rfl rfl (by rw [List.length_map]) ho2 (by simp only [hl2]; show (k - n + 1) * 8 ≤ _; omega) (by omega)) rfl rfl rfl ?_
            rintro _ S1 ⟨o', rfl, hown, hup, hnew⟩
            have hb2' := hup.box _ _ hb2
            have hb1' := hup.box _ _ hb1
            repeat (first | refine LOps.nil ?_ | refine andThen_normal ?_ | refine andThen_exit ?_ | refine andThen_ret ?_ | refine inBlock_normal ?_ | refine inBlock_ret ?_ | refine inBlock_here ?_ | refine inBlock_out rfl ?_ | refine LWp.seq ?_ | refine LWp.region ?_ | refine LWp.block ?_ | refine LWp.exit ?_ | refine LWp.ret ?_ | refine LWp.skip ?_ | refine LOps.valA ?_ | refine LOps.outA ?_ | refine LOps.whenA ?_ | refine LOps.pickA ?_ | refine LOps.storeA ?_)
            refine ⟨15 - (k + 1), by omega, _, k + 1, ou, o', by omega, rfl, hnd', hbd', (hle.upto hup hx2).setBox hbw0 _, ?_, ?_, ?_, ?_, hx1, hx2.next hle hnew, fun b h1 h2 => own_apart ho1 hnew hdis' b h2 h1, holds.over ⟨?_, rfl, rfl, rfl, rfl, trivial⟩⟩
            · rw [box_set_ne _ _ hne]; exact hb1'
            · rw [box_set, E1, E2, iList_snoc]; rfl
            · rw [E1]; exact (ho1.upto hup hdis').setBox
            · rw [E2, List.length_append]; exact hown.setBox
            · rw [hq2]; rfl
  · obtain rfl : k = 15 := by have := of_decide_eq_false h; omega
    have hE : L.take 15 = L := List.take_of_length_le (by omega)
    rw [hE] at hnd hbd hb2
    repeat (first | refine LOps.nil ?_ | refine andThen_normal ?_ | refine andThen_exit ?_ | refine andThen_ret ?_ | refine inBlock_normal ?_ | refine inBlock_ret ?_ | refine inBlock_here ?_ | refine inBlock_out rfl ?_ | refine LWp.seq ?_ | refine LWp.region ?_ | refine LWp.block ?_ | refine LWp.exit ?_ | refine LWp.ret ?_ | refine LWp.skip ?_ | refine LOps.valA ?_ | refine LOps.outA ?_ | refine LOps.whenA ?_ | refine LOps.pickA ?_ | refine LOps.storeA ?_)
    refine ⟨_, (LRes.many rfl rfl (.cons (.cell rfl (box_set _ _ _) (hP ▸ tok89) rfl) (.cons (.tmp _) .nil))).sh, ?_, hle.setBox hbr.box _⟩
    rw [ofR_yes (by rw [← hL]; exact hrp.2 ⟨hnd, hbd⟩), ← hL, ← hn]
    rfl
end Go.Proofs.Ytgkjhlmfgaaddaa.LF
end

section
/- The document's words over the frame: Put, Insert, Remove. -/
namespace Go.Proofs.Ytgkjhlmfgaaddaa.LF
open Go.RowKit

theorem iList_one (xs : List Nat) : ∀ c ∈ iList xs, c.length = 1 := by simp
theorem iList_app (xs ys : List Nat) : iList xs ++ iList ys = iList (xs ++ ys) := by simp
theorem iList_len (xs : List Nat) : (iList xs).length = xs.length := by simp

theorem put_L {G : Ctx} (hP : G.P = Try.prog) (xs ys : List Nat) (hl : xs.length + ys.length = 15) (h16 : ∀ x ∈ xs ++ ys, x < 16) (S : LS) :
    LCalls G 65 [.agg [.sl .sh (iList xs), .sl .sh (iList ys)]] (fun r S' => r = .one (.v (.int .u64 (wd xs.length (xs ++ ys) : Nat))) ∧ S.le S') S := by
  have hD : TabOK G.P D := by rw [hP]; exact hD0
  have hm : G.P.follows .mixedOrders = true := by rw [hP]; rfl
  refine LCalls.enter (fn := Try.f65) (by rw [hP]; exact Try.func65) rfl rfl ?_
  repeat (first | refine LOps.nil ?_ | refine andThen_normal ?_ | refine andThen_exit ?_ | refine andThen_ret ?_ | refine inBlock_normal ?_ | refine inBlock_ret ?_ | refine inBlock_here ?_ | refine inBlock_out rfl ?_ | refine LWp.seq ?_ | refine LWp.region ?_ | refine LWp.block ?_ | refine LWp.exit ?_ | refine LWp.ret ?_ | refine LWp.skip ?_ | refine LOps.valA ?_ | refine LOps.outA ?_ | refine LOps.whenA ?_ | refine LOps.pickA ?_ | refine LOps.storeA ?_)
  refine LOps.do (LDo.box rfl rfl) rfl rfl rfl ?_
  rintro _ _ ⟨bw, hbw, rfl, rfl⟩
  repeat (first | refine LOps.nil ?_ | refine andThen_normal ?_ | refine andThen_exit ?_ | refine andThen_ret ?_ | refine inBlock_normal ?_ | refine inBlock_ret ?_ | refine inBlock_here ?_ | refine inBlock_out rfl ?_ | refine LWp.seq ?_ | refine LWp.region ?_ | refine LWp.block ?_ | refine LWp.exit ?_ | refine LWp.ret ?_ | refine LWp.skip ?_ | refine LOps.valA ?_ | refine LOps.outA ?_ | refine LOps.whenA ?_ | refine LOps.pickA ?_ | refine LOps.storeA ?_)
  refine LWp.drawL [1, 2, 4, 5, 0, 3, 6, 7] hm rfl ?_
  repeat (first | refine LRl.nil ?_ | refine LRl.valA ?_ | refine LRl.outA ?_ | refine LRl.whenA ?_ | refine LRl.pickA ?_)
  refine LRl.act (LDo.emptySlice hD rfl rfl rfl rfl rfl rfl rfl) rfl rfl rfl rfl ?_ ?_
  · rintro _ _ ⟨b, hb, rfl, rfl⟩; exact .inl (.newRow hb _ _)
  rintro _ _ ⟨b, hb, rfl, rfl⟩
  refine LRl.act (LDo.appendN hD rfl rfl rfl rfl rfl rfl rfl rfl rfl (show [].length = 0 from rfl) (iList_len xs) (.new _ _ _ _) (iList_one xs) (by omega)) rfl rfl rfl rfl ?_ ?_
  · rintro _ _ ⟨o', rfl, hown, hup, hnew⟩; exact .inl (.upto hup)
  rintro _ S1 ⟨o1, rfl, hown, hup, hnew⟩
  refine LRl.act (LDo.appendN hD rfl rfl rfl rfl rfl rfl rfl rfl rfl (show _ = 0 + xs.length by rw [List.nil_append, iList_len, Nat.zero_add]) (iList_len ys) hown (iList_one ys) (by omega)) rfl rfl rfl rfl ?_ ?_
  · rintro _ _ ⟨o', rfl, hown, hup, hnew⟩; exact .inl (.upto hup)
  rintro _ S2 ⟨o2, rfl, hown2, hup2, hnew2⟩
  repeat (first | refine LRl.nil ?_ | refine LRl.valA ?_ | refine LRl.outA ?_ | refine LRl.whenA ?_ | refine LRl.pickA ?_)
  repeat (first | refine LOps.nil ?_ | refine andThen_normal ?_ | refine andThen_exit ?_ | refine andThen_ret ?_ | refine inBlock_normal ?_ | refine inBlock_ret ?_ | refine inBlock_here ?_ | refine inBlock_out rfl ?_ | refine LWp.seq ?_ | refine LWp.region ?_ | refine LWp.block ?_ | refine LWp.exit ?_ | refine LWp.ret ?_ | refine LWp.skip ?_ | refine LOps.valA ?_ | refine LOps.outA ?_ | refine LOps.whenA ?_ | refine LOps.pickA ?_ | refine LOps.storeA ?_)
  obtain ⟨l, hll⟩ : ∃ l, l = xs ++ ys := ⟨_, rfl⟩
  have hl15 : l.length = 15 := by rw [hll, List.length_append]; exact hl
  have hdl := dig_lt l (by rw [hll]; exact h16)
  rw [hl15] at hdl
  have hwd : wd xs.length (xs ++ ys) = xs.length + 16 * dig l := by rw [hll]; rfl
  have hle : S.le S2 := ((LS.le.refl S).newBox hbw _).newRow hb _ _ |>.upto hup (.fresh (.newBox (.refl _) hbw _) hb) |>.upto hup2 (Out.next (.newRow (.newBox (.refl _) hbw _) hb _ _) (.fresh (.newBox (.refl _) hbw _) hb) hnew)
  have hb2 : S2.box bw = some [.sl .sh (iList xs), .sl .sh (iList ys)] := hup2.box _ _ (hup.box _ _ (box_new _ _ _))
  refine LWp.loop (fun k T S' => ∃ T', S' = S2 ∧ k ≤ 15 ∧ T = over T' [(1, .one (.v (.pointer (some ⟨bw, 0, none⟩)))), (3, .one (.sl o2 (iList l))), (4, .one (.v (.int .u64 (dig (l.drop k) : Nat)))), (5, .one (iv ((k : Int) - 1)))]) 15 ?_ ?_
  · refine ⟨_, rfl, by omega, holds.over ⟨rfl, ?_, ?_, ?_, trivial⟩⟩
    · rw [hll, ← iList_app]; rfl
    · rw [List.drop_of_length_le (by omega)]; rfl
    · have e : ([] ++ iList xs ++ iList ys).length = 15 := by simp; omega
      show TV.one (iv (IntKind.i64.wrap ((([] ++ iList xs ++ iList ys).length : Int) - 1))) = _
      rw [e]; rfl
  rintro k T S' ⟨T', rfl, hk, rfl⟩
  repeat (first | refine LOps.nil ?_ | refine andThen_normal ?_ | refine andThen_exit ?_ | refine andThen_ret ?_ | refine inBlock_normal ?_ | refine inBlock_ret ?_ | refine inBlock_here ?_ | refine inBlock_out rfl ?_ | refine LWp.seq ?_ | refine LWp.region ?_ | refine LWp.block ?_ | refine LWp.exit ?_ | refine LWp.ret ?_ | refine LWp.skip ?_ | refine LOps.valA ?_ | refine LOps.outA ?_ | refine LOps.whenA ?_ | refine LOps.pickA ?_ | refine LOps.storeA ?_)
  refine LWp.cond rfl (fun h => ?_) (fun h => ?_)
  · have hk1 : 1 ≤ k := by have := of_decide_eq_true h; omega
    obtain ⟨k, rfl⟩ : ∃ j, k = j + 1 := ⟨k - 1, by omega⟩
    have hk2 : k < l.length := by omega
    obtain ⟨d, hd⟩ : ∃ d, d = dig (l.drop (k + 1)) := ⟨_, rfl⟩
    have hdk : dig (l.drop k) = l[k] + 16 * d := by rw [List.drop_eq_getElem_cons hk2, hd]; rfl
    have hx16 : l[k] < 16 := by have := List.getElem_mem hk2; exact h16 _ (by rw [← hll]; exact this)
    have hlt : dig (l.drop k) < 1152921504606846976 := by
      have h1 := dig_lt (l.drop k) (fun y hy => by rw [hll] at hy; exact h16 y (List.mem_of_mem_drop hy))
      have h2 : (16 : Nat) ^ (l.drop k).length ≤ 16 ^ 15 := Nat.pow_le_pow_right (by omega) (by rw [List.length_drop]; omega)
      omega
    rw [← hd, show ((k + 1 : Nat) : Int) - 1 = (k : Int) by omega]
    repeat (first | refine LOps.nil ?_ | refine andThen_normal ?_ | refine andThen_exit ?_ | refine andThen_ret ?_ | refine inBlock_normal ?_ | refine inBlock_ret ?_ | refine inBlock_here ?_ | refine inBlock_out rfl ?_ | refine LWp.seq ?_ | refine LWp.region ?_ | refine LWp.block ?_ | refine LWp.exit ?_ | refine LWp.ret ?_ | refine LWp.skip ?_ | refine LOps.valA ?_ | refine LOps.outA ?_ | refine LOps.whenA ?_ | refine LOps.pickA ?_ | refine LOps.storeA ?_)
    refine ⟨k, by omega, _, rfl, by omega, holds.over ⟨rfl, rfl, ?_, ?_, trivial⟩⟩
    · rw [hdk]; exact congrArg (fun x => TV.one (LV.v (Value.int .u64 x))) (show (d : Int) * 16 + (l[k] : Nat) = ((l[k] + 16 * d : Nat) : Int) by omega)
    · rfl
  · obtain rfl : k = 0 := by have := of_decide_eq_false h; omega
    have hdl2 : dig l < 1152921504606846976 := hdl
    have hxl : (iList xs).length ≤ 15 := by rw [iList_len]; omega
    rw [List.drop_zero]
    repeat (first | refine LOps.nil ?_ | refine andThen_normal ?_ | refine andThen_exit ?_ | refine andThen_ret ?_ | refine inBlock_normal ?_ | refine inBlock_ret ?_ | refine inBlock_here ?_ | refine inBlock_out rfl ?_ | refine LWp.seq ?_ | refine LWp.region ?_ | refine LWp.block ?_ | refine LWp.exit ?_ | refine LWp.ret ?_ | refine LWp.skip ?_ | refine LOps.valA ?_ | refine LOps.outA ?_ | refine LOps.whenA ?_ | refine LOps.pickA ?_ | refine LOps.storeA ?_)
    refine ⟨_, LRes.one rfl, ?_, hle⟩
    rw [hwd]
    exact congrArg (fun x => TV.one (LV.v (Value.int .u64 x))) (show (dig l : Int) * 16 + ((iList xs).length : Nat) = ((xs.length + 16 * dig l : Nat) : Int) by rw [iList_len]; omega)

theorem put_F {G : Ctx} (hP : G.P = Try.prog) (xs ys : List Nat) (hl : xs.length + ys.length = 15) (h16 : ∀ x ∈ xs ++ ys, x < 16) :
    LFun G 65 [.agg [.sl .sh (iList xs), .sl .sh (iList ys)]] (.one (.v (.int .u64 (wd xs.length (xs ++ ys) : Nat)))) := LFun.of (put_L hP xs ys hl h16)
theorem of_F {G : Ctx} (hP : G.P = Try.prog) (p : Nat) (hp : p < 18446744073709551616) : LFun G 50 [.one (.v (.int .u64 p))] (ofR p) := LFun.of (of_L hP p hp)
end Go.Proofs.Ytgkjhlmfgaaddaa.LF
end

section
/- The document's Insert over the frame. -/
namespace Go.Proofs.Ytgkjhlmfgaaddaa.LF
open Go.RowKit

def noR (p : Nat) : TV := .tup [.one (.v (.int .u64 p)), .one (iv (-1)), .one (.v (.bool false))]
def yesR (q s : Nat) : TV := .tup [.one (.v (.int .u64 q)), .one (iv s), .one (.v (.bool true))]
def insR (p : Nat) (i : Int) : TV := if rt (slots p) = true ∧ p % 16 < 15 ∧ 0 ≤ i ∧ i ≤ (p % 16 : Nat) then yesR (insW p i.toNat) (nib p (p % 16)) else noR p

theorem insR_no {p : Nat} {i : Int} (h : ¬ (rt (slots p) = true ∧ p % 16 < 15 ∧ 0 ≤ i ∧ i ≤ (p % 16 : Nat))) : noR p = insR p i := by unfold insR; rw [if_neg h]

theorem insW_parts (p i : Nat) (hn : p % 16 < 15) (hi : i ≤ p % 16) :
    wd (p % 16 + 1) (((slots p).take (p % 16)).take i ++ nib p (p % 16) :: ((slots p).take (p % 16)).drop i ++ ((slots p).drop (p % 16)).drop 1) = insW p i := by
  unfold insW mv ers ins
  congr 1
  have hl := slots_length p
  have hg : (slots p).getD (p % 16) 0 = nib p (p % 16) := by
    rw [List.getD_eq_getElem?_getD, slots_get p _ hn]; rfl
  rw [hg]
  rw [List.take_append_of_le_length (by rw [List.length_take]; omega), List.drop_append_of_le_length (by rw [List.length_take]; omega), List.drop_drop]
  simp

set_option maxHeartbeats 1000000 in
theorem refIns_L {G : Ctx} (hP : G.P = Try.prog) (p : Nat) (i : Int) (hp : p < 18446744073709551616) (S : LS) :
    LCalls G 58 [.one (.v (.int .u64 p)), .one (iv i)] (fun r S' => r = insR p i ∧ S.le S') S := by
  have hD : TabOK G.P D := by rw [hP]; exact hD0
  have hm : G.P.follows .mixedOrders = true := by rw [hP]; rfl
  have hof := of_F hP p hp
  refine LCalls.enter (fn := Try.f58) (by rw [hP]; exact Try.func58) rfl rfl ?_
  by_cases hr : Rt (slots p)
  · rw [ofR_yes hr] at hof
    obtain ⟨n, hn⟩ : ∃ n, n = p % 16 := ⟨_, rfl⟩
    have hn16 : n < 16 := by omega
    have hlen := slots_length p
    rw [← hn] at hof
    obtain ⟨U, hU⟩ : ∃ U, U = (slots p).take n := ⟨_, rfl⟩
    obtain ⟨F, hF⟩ : ∃ F, F = (slots p).drop n := ⟨_, rfl⟩
    have hUl : U.length = min n 15 := by rw [hU, List.length_take, hlen]
    have hFl : F.length = 15 - n := by rw [hF, List.length_drop, hlen]
    rw [← hU, ← hF] at hof
    repeat (first | refine LOps.valG (LVal.call rfl rfl (by rw [hP]; exact Try.func50) rfl (by decide) hof) rfl rfl rfl ?_ | refine LOps.nil ?_ | refine andThen_normal ?_ | refine andThen_exit ?_ | refine andThen_ret ?_ | refine inBlock_normal ?_ | refine inBlock_ret ?_ | refine inBlock_here ?_ | refine inBlock_out rfl ?_ | refine LWp.seq ?_ | refine LWp.region ?_ | refine LWp.block ?_ | refine LWp.exit ?_ | refine LWp.ret ?_ | refine LWp.skip ?_ | refine LOps.valA ?_ | refine LOps.outA ?_ | refine LOps.whenA ?_ | refine LOps.pickA ?_ | refine LOps.storeA ?_)
    refine LOps.do (LDo.alloc hD rfl rfl rfl) rfl rfl rfl ?_
    rintro _ _ ⟨bw, hbw, rfl, rfl⟩
    repeat (first | refine LOps.nil ?_ | refine andThen_normal ?_ | refine andThen_exit ?_ | refine andThen_ret ?_ | refine inBlock_normal ?_ | refine inBlock_ret ?_ | refine inBlock_here ?_ | refine inBlock_out rfl ?_ | refine LWp.seq ?_ | refine LWp.region ?_ | refine LWp.block ?_ | refine LWp.exit ?_ | refine LWp.ret ?_ | refine LWp.skip ?_ | refine LOps.valA ?_ | refine LOps.outA ?_ | refine LOps.whenA ?_ | refine LOps.pickA ?_ | refine LOps.storeA ?_)
    have hle0 : S.le ((S.newBox bw (ti89.zero.cells.toList.map constLV)).setBox bw [.sl .sh (iList U), .sl .sh (iList F)]) := ((LS.le.refl S).newBox hbw _).setBox hbw.box _
    have hno : ¬ (rt (slots p) = true ∧ p % 16 < 15 ∧ 0 ≤ i ∧ i ≤ (p % 16 : Nat)) → ∀ T : Nat → TV, T 4 = .one (.v (.int .u64 p)) → T 5 = .one (iv (-1)) → T 6 = .one (.v (.bool false)) →
        LBody G Try.f58.ntmps Try.f58 (fun r S' => r = insR p i ∧ S.le S') .ret T ((S.newBox bw (ti89.zero.cells.toList.map constLV)).setBox bw [.sl .sh (iList U), .sl .sh (iList F)]) := by
      intro h T h4 h5 h6
      refine ⟨_, (LRes.many rfl rfl (.cons (.tmp _) (.cons (.tmp _) (.cons (.tmp _) .nil)))).sh, ?_, hle0⟩
      rw [← insR_no h, h4, h5, h6]; rfl
    refine LWp.cond rfl (fun h => ?_) (fun h => ?_)
    · have h : (((false || ((((iList F).length : Nat) : Int) == 0)) || decide (i < 0)) || decide (i > (((iList U).length : Nat) : Int))) = true := h
      rw [iList_len, iList_len] at h
      simp only [Bool.false_or, Bool.or_eq_true, beq_iff_eq, decide_eq_true_eq] at h
      repeat (first | refine LOps.nil ?_ | refine andThen_normal ?_ | refine andThen_exit ?_ | refine andThen_ret ?_ | refine inBlock_normal ?_ | refine inBlock_ret ?_ | refine inBlock_here ?_ | refine inBlock_out rfl ?_ | refine LWp.seq ?_ | refine LWp.region ?_ | refine LWp.block ?_ | refine LWp.exit ?_ | refine LWp.ret ?_ | refine LWp.skip ?_ | refine LOps.valA ?_ | refine LOps.outA ?_ | refine LOps.whenA ?_ | refine LOps.pickA ?_ | refine LOps.storeA ?_)
      exact hno (fun h2 => by omega) _ rfl rfl rfl
    have h : (((false || ((((iList F).length : Nat) : Int) == 0)) || decide (i < 0)) || decide (i > (((iList U).length : Nat) : Int))) = false := h
    rw [iList_len, iList_len] at h
    simp only [Bool.false_or, Bool.or_eq_false_iff, beq_eq_false_iff_ne, decide_eq_false_iff_not, ne_eq] at h
    have hn15 : n < 15 := by omega
    have hi0 : 0 ≤ i := by omega
    have hin : i ≤ n := by omega
    obtain ⟨k, rfl⟩ : ∃ k : Nat, i = k := ⟨i.toNat, by omega⟩
    have hkU : k ≤ U.length := by omega
    have hF0 : F[0]? = some (nib p n) := by
      rw [hF, List.getElem?_drop, Nat.add_zero, slots_get p n hn15]
    have hbw0 := box_set (S.newBox bw (ti89.zero.cells.toList.map constLV)) bw [.sl .sh (iList U), .sl .sh (iList F)]
    repeat (first | refine LOps.val (LVal.indexLit hD rfl rfl rfl (n := 0) rfl rfl rfl rfl hF0 rfl) rfl rfl rfl ?_ | refine LOps.nil ?_ | refine andThen_normal ?_ | refine andThen_exit ?_ | refine andThen_ret ?_ | refine inBlock_normal ?_ | refine inBlock_ret ?_ | refine inBlock_here ?_ | refine inBlock_out rfl ?_ | refine LWp.seq ?_ | refine LWp.region ?_ | refine LWp.block ?_ | refine LWp.exit ?_ | refine LWp.ret ?_ | refine LWp.skip ?_ | refine LOps.valA ?_ | refine LOps.outA ?_ | refine LOps.whenA ?_ | refine LOps.pickA ?_ | refine LOps.storeA ?_)
    refine LOps.do (LDo.appendN hD rfl rfl rfl rfl rfl rfl rfl rfl rfl (show [].length = 0 from rfl) (iList_len (U.take k)) (show Owned _ _ 0 .nil from rfl) (iList_one _) (by simp; omega)) rfl rfl rfl ?_
    rintro _ S1 ⟨o1, rfl, hown1, hup1, hnew1⟩
    have hle1 := hle0.upto hup1 (.nil S)
    have hx1 := (Out.nil S).next hle0 hnew1
    have hb1 := hup1.box _ _ hbw0
    clear hbw0
    repeat (first | refine LOps.nil ?_ | refine andThen_normal ?_ | refine andThen_exit ?_ | refine andThen_ret ?_ | refine inBlock_normal ?_ | refine inBlock_ret ?_ | refine inBlock_here ?_ | refine inBlock_out rfl ?_ | refine LWp.seq ?_ | refine LWp.region ?_ | refine LWp.block ?_ | refine LWp.exit ?_ | refine LWp.ret ?_ | refine LWp.skip ?_ | refine LOps.valA ?_ | refine LOps.outA ?_ | refine LOps.whenA ?_ | refine LOps.pickA ?_ | refine LOps.storeA ?_)
    refine LOps.do (LDo.push hD rfl rfl rfl rfl rfl rfl rfl rfl rfl rfl (show _ = k by simp; omega) (hown1.ofN (by simp; omega)) (by omega)) rfl rfl rfl ?_
    rintro _ S2 ⟨o2, rfl, hown2, hup2, hnew2⟩
    have hle2 := hle1.upto hup2 hx1
    have hx2 := hx1.next hle1 hnew2
    have hb2 := hup2.box _ _ hb1
    clear hb1
    repeat (first | refine LOps.nil ?_ | refine andThen_normal ?_ | refine andThen_exit ?_ | refine andThen_ret ?_ | refine inBlock_normal ?_ | refine inBlock_ret ?_ | refine inBlock_here ?_ | refine inBlock_out rfl ?_ | refine LWp.seq ?_ | refine LWp.region ?_ | refine LWp.block ?_ | refine LWp.exit ?_ | refine LWp.ret ?_ | refine LWp.skip ?_ | refine LOps.valA ?_ | refine LOps.outA ?_ | refine LOps.whenA ?_ | refine LOps.pickA ?_ | refine LOps.storeA ?_)
    refine LOps.do (LDo.appendN hD rfl rfl rfl rfl rfl rfl rfl rfl rfl (show _ = k + 1 by simp; omega) (iList_len (U.drop k)) hown2 (iList_one _) (by simp; omega)) rfl rfl rfl ?_
    rintro _ S3 ⟨o3, rfl, hown3, hup3, hnew3⟩
    have hle3 := hle2.upto hup3 hx2
    have hb3 := hup3.box _ _ hb2
    clear hb2
    repeat (first | refine LOps.val (LVal.dropLit hD rfl rfl rfl (m := 1) rfl rfl rfl rfl (by omega) rfl (fun _ _ => rfl)) rfl rfl rfl ?_ | refine LOps.nil ?_ | refine andThen_normal ?_ | refine andThen_exit ?_ | refine andThen_ret ?_ | refine inBlock_normal ?_ | refine inBlock_ret ?_ | refine inBlock_here ?_ | refine inBlock_out rfl ?_ | refine LWp.seq ?_ | refine LWp.region ?_ | refine LWp.block ?_ | refine LWp.exit ?_ | refine LWp.ret ?_ | refine LWp.skip ?_ | refine LOps.valA ?_ | refine LOps.outA ?_ | refine LOps.whenA ?_ | refine LOps.pickA ?_ | refine LOps.storeA ?_)
    have e : [] ++ iList (U.take k) ++ [[iv (nib p n)]] ++ iList (U.drop k) = iList (U.take k ++ nib p n :: U.drop k) := by simp
    have hlt := slots_lt p
    refine LOps.valG (LVal.call rfl (show _ = [TV.agg [.sl .sh (iList (U.take k ++ nib p n :: U.drop k)), .sl .sh (iList (F.drop 1))]] from congrArg (fun z => [TV.agg [.sl .sh z, .sl .sh (iList (F.drop 1))]]) e) (by rw [hP]; exact Try.func65) rfl (by decide)
      (put_F hP _ _ (by simp; omega) (fun x hx => ?_))) rfl rfl rfl ?_
    · rw [hU, hF] at hx
      simp only [List.mem_append, List.mem_cons] at hx
      rcases hx with (hx | rfl | hx) | hx
      · exact hlt x (List.mem_of_mem_take (List.mem_of_mem_take hx))
      · exact Nat.mod_lt _ (by omega)
      · exact hlt x (List.mem_of_mem_take (List.mem_of_mem_drop hx))
      · exact hlt x (List.mem_of_mem_drop (List.mem_of_mem_drop hx))
    repeat (first | refine LOps.nil ?_ | refine andThen_normal ?_ | refine andThen_exit ?_ | refine andThen_ret ?_ | refine inBlock_normal ?_ | refine inBlock_ret ?_ | refine inBlock_here ?_ | refine inBlock_out rfl ?_ | refine LWp.seq ?_ | refine LWp.region ?_ | refine LWp.block ?_ | refine LWp.exit ?_ | refine LWp.ret ?_ | refine LWp.skip ?_ | refine LOps.valA ?_ | refine LOps.outA ?_ | refine LOps.whenA ?_ | refine LOps.pickA ?_ | refine LOps.storeA ?_)
    refine ⟨_, (LRes.many rfl rfl (.cons (.tmp _) (.cons (.tmp _) (.cons (.tmp _) .nil)))).sh, ?_, hle3.setBox hbw.box _ |>.setBox hbw.box _⟩
    have hw : wd (U.take k ++ nib p n :: U.drop k).length ((U.take k ++ nib p n :: U.drop k) ++ F.drop 1) = insW p k := by
      rw [← insW_parts p k (by omega) (by omega), ← hn, ← hU, ← hF]
      congr 1
      simp; omega
    have hR : insR p k = yesR (insW p k) (nib p n) := by
      unfold insR
      rw [if_pos ⟨rt_yes hr, by omega, by omega, by omega⟩, ← hn]; rfl
    rw [hR, ← hw]; rfl
  · rw [ofR_no hr] at hof
    repeat (first | refine LOps.valG (LVal.call rfl rfl (by rw [hP]; exact Try.func50) rfl (by decide) hof) rfl rfl rfl ?_ | refine LOps.nil ?_ | refine andThen_normal ?_ | refine andThen_exit ?_ | refine andThen_ret ?_ | refine inBlock_normal ?_ | refine inBlock_ret ?_ | refine inBlock_here ?_ | refine inBlock_out rfl ?_ | refine LWp.seq ?_ | refine LWp.region ?_ | refine LWp.block ?_ | refine LWp.exit ?_ | refine LWp.ret ?_ | refine LWp.skip ?_ | refine LOps.valA ?_ | refine LOps.outA ?_ | refine LOps.whenA ?_ | refine LOps.pickA ?_ | refine LOps.storeA ?_)
    refine LOps.do (LDo.alloc hD rfl rfl rfl) rfl rfl rfl ?_
    rintro _ _ ⟨bw, hbw, rfl, rfl⟩
    repeat (first | refine LOps.nil ?_ | refine andThen_normal ?_ | refine andThen_exit ?_ | refine andThen_ret ?_ | refine inBlock_normal ?_ | refine inBlock_ret ?_ | refine inBlock_here ?_ | refine inBlock_out rfl ?_ | refine LWp.seq ?_ | refine LWp.region ?_ | refine LWp.block ?_ | refine LWp.exit ?_ | refine LWp.ret ?_ | refine LWp.skip ?_ | refine LOps.valA ?_ | refine LOps.outA ?_ | refine LOps.whenA ?_ | refine LOps.pickA ?_ | refine LOps.storeA ?_)
    refine LWp.condT rfl ?_
    repeat (first | refine LOps.nil ?_ | refine andThen_normal ?_ | refine andThen_exit ?_ | refine andThen_ret ?_ | refine inBlock_normal ?_ | refine inBlock_ret ?_ | refine inBlock_here ?_ | refine inBlock_out rfl ?_ | refine LWp.seq ?_ | refine LWp.region ?_ | refine LWp.block ?_ | refine LWp.exit ?_ | refine LWp.ret ?_ | refine LWp.skip ?_ | refine LOps.valA ?_ | refine LOps.outA ?_ | refine LOps.whenA ?_ | refine LOps.pickA ?_ | refine LOps.storeA ?_)
    refine ⟨_, (LRes.many rfl rfl (.cons (.tmp _) (.cons (.tmp _) (.cons (.tmp _) .nil)))).sh, ?_, ((LS.le.refl S).newBox hbw _).setBox hbw.box _⟩
    rw [← insR_no (fun h => by rw [rt_no hr] at h; cases h.1)]; rfl
theorem refIns_F {G : Ctx} (hP : G.P = Try.prog) (p : Nat) (i : Int) (hp : p < 18446744073709551616) : LFun G 58 [.one (.v (.int .u64 p)), .one (iv i)] (insR p i) := LFun.of (refIns_L hP p i hp)
end Go.Proofs.Ytgkjhlmfgaaddaa.LF
end

section
/- The document's Remove over the frame. -/
namespace Go.Proofs.Ytgkjhlmfgaaddaa.LF
open Go.RowKit

def remR (p : Nat) (i : Int) : TV := if rt (slots p) = true ∧ 0 ≤ i ∧ i < (p % 16 : Nat) then yesR (remW p i.toNat) (nib p i.toNat) else noR p
theorem remR_no {p : Nat} {i : Int} (h : ¬ (rt (slots p) = true ∧ 0 ≤ i ∧ i < (p % 16 : Nat))) : noR p = remR p i := by unfold remR; rw [if_neg h]

theorem remW_parts (p i : Nat) (hi : i < p % 16) :
    wd (p % 16 - 1) (((slots p).take (p % 16)).take i ++ ((slots p).take (p % 16)).drop (i + 1) ++ nib p i :: (slots p).drop (p % 16)) = remW p i := by
  unfold remW mv ers ins
  congr 1
  have hl := slots_length p
  have hg : (slots p).getD i 0 = nib p i := by
    rw [List.getD_eq_getElem?_getD, slots_get p i (by omega)]; rfl
  rw [hg]
  obtain ⟨m, hm⟩ : ∃ m, m = p % 16 - 1 - i := ⟨_, rfl⟩
  have e1 : p % 16 - 1 = i + m := by omega
  have e2 : p % 16 = i + m + 1 := by omega
  have e0 : i + m + 1 ≤ 16 := by omega
  rw [e1, e2]
  generalize slots p = L at hl
  have hi' : (L.take i).length = i := by rw [List.length_take]; omega
  have r1 : (L.take i ++ L.drop (i + 1)).take (i + m) = L.take i ++ (L.drop (i + 1)).take m := by
    rw [List.take_append, hi', List.take_of_length_le (by omega), show i + m - i = m by omega]
  have r2 : (L.take i ++ L.drop (i + 1)).drop (i + m) = L.drop (i + m + 1) := by
    rw [List.drop_append, hi', List.drop_eq_nil_of_le (by omega), List.drop_drop, show i + 1 + (i + m - i) = i + m + 1 by omega]; rfl
  have r3 : (L.take (i + m + 1)).take i = L.take i := by rw [List.take_take, Nat.min_eq_left (by omega)]
  have r4 : (L.take (i + m + 1)).drop (i + 1) = (L.drop (i + 1)).take m := by rw [List.drop_take, show i + m + 1 - (i + 1) = m by omega]
  rw [r1, r2, r3, r4]

set_option maxHeartbeats 1000000 in
theorem refRem_L {G : Ctx} (hP : G.P = Try.prog) (p : Nat) (i : Int) (hp : p < 18446744073709551616) (S : LS) :
    LCalls G 59 [.one (.v (.int .u64 p)), .one (iv i)] (fun r S' => r = remR p i ∧ S.le S') S := by
  have hD : TabOK G.P D := by rw [hP]; exact hD0
  have hm : G.P.follows .mixedOrders = true := by rw [hP]; rfl
  have hof := of_F hP p hp
  refine LCalls.enter (fn := Try.f59) (by rw [hP]; exact Try.func59) rfl rfl ?_
  by_cases hr : Rt (slots p)
  · rw [ofR_yes hr] at hof
    obtain ⟨n, hn⟩ : ∃ n, n = p % 16 := ⟨_, rfl⟩
    have hn16 : n < 16 := by omega
    have hlen := slots_length p
    rw [← hn] at hof
    obtain ⟨U, hU⟩ : ∃ U, U = (slots p).take n := ⟨_, rfl⟩
    obtain ⟨F, hF⟩ : ∃ F, F = (slots p).drop n := ⟨_, rfl⟩
    have hUl : U.length = min n 15 := by rw [hU, List.length_take, hlen]
    have hFl : F.length = 15 - n := by rw [hF, List.length_drop, hlen]
    rw [← hU, ← hF] at hof
    repeat (first | refine LOps.valG (LVal.call rfl rfl (by rw [hP]; exact Try.func50) rfl (by decide) hof) rfl rfl rfl ?_ | refine LOps.nil ?_ | refine andThen_normal ?_ | refine andThen_exit ?_ | refine andThen_ret ?_ | refine inBlock_normal ?_ | refine inBlock_ret ?_ | refine inBlock_here ?_ | refine inBlock_out rfl ?_ | refine LWp.seq ?_ | refine LWp.region ?_ | refine LWp.block ?_ | refine LWp.exit ?_ | refine LWp.ret ?_ | refine LWp.skip ?_ | refine LOps.valA ?_ | refine LOps.outA ?_ | refine LOps.whenA ?_ | refine LOps.pickA ?_ | refine LOps.storeA ?_)
    refine LOps.do (LDo.alloc hD rfl rfl rfl) rfl rfl rfl ?_
    rintro _ _ ⟨bw, hbw, rfl, rfl⟩
    repeat (first | refine LOps.nil ?_ | refine andThen_normal ?_ | refine andThen_exit ?_ | refine andThen_ret ?_ | refine inBlock_normal ?_ | refine inBlock_ret ?_ | refine inBlock_here ?_ | refine inBlock_out rfl ?_ | refine LWp.seq ?_ | refine LWp.region ?_ | refine LWp.block ?_ | refine LWp.exit ?_ | refine LWp.ret ?_ | refine LWp.skip ?_ | refine LOps.valA ?_ | refine LOps.outA ?_ | refine LOps.whenA ?_ | refine LOps.pickA ?_ | refine LOps.storeA ?_)
    have hle0 : S.le ((S.newBox bw (ti89.zero.cells.toList.map constLV)).setBox bw [.sl .sh (iList U), .sl .sh (iList F)]) := ((LS.le.refl S).newBox hbw _).setBox hbw.box _
    have hno : ¬ (rt (slots p) = true ∧ 0 ≤ i ∧ i < (p % 16 : Nat)) → ∀ T : Nat → TV, T 4 = .one (.v (.int .u64 p)) → T 5 = .one (iv (-1)) → T 6 = .one (.v (.bool false)) →
        LBody G Try.f59.ntmps Try.f59 (fun r S' => r = remR p i ∧ S.le S') .ret T ((S.newBox bw (ti89.zero.cells.toList.map constLV)).setBox bw [.sl .sh (iList U), .sl .sh (iList F)]) := by
      intro h T h4 h5 h6
      refine ⟨_, (LRes.many rfl rfl (.cons (.tmp _) (.cons (.tmp _) (.cons (.tmp _) .nil)))).sh, ?_, hle0⟩
      rw [← remR_no h, h4, h5, h6]; rfl
    refine LWp.cond rfl (fun h => ?_) (fun h => ?_)
    · have h : ((false || decide (i < 0)) || decide (i ≥ (((iList U).length : Nat) : Int))) = true := h
      rw [iList_len] at h
      simp only [Bool.false_or, Bool.or_eq_true, decide_eq_true_eq] at h
      repeat (first | refine LOps.nil ?_ | refine andThen_normal ?_ | refine andThen_exit ?_ | refine andThen_ret ?_ | refine inBlock_normal ?_ | refine inBlock_ret ?_ | refine inBlock_here ?_ | refine inBlock_out rfl ?_ | refine LWp.seq ?_ | refine LWp.region ?_ | refine LWp.block ?_ | refine LWp.exit ?_ | refine LWp.ret ?_ | refine LWp.skip ?_ | refine LOps.valA ?_ | refine LOps.outA ?_ | refine LOps.whenA ?_ | refine LOps.pickA ?_ | refine LOps.storeA ?_)
      exact hno (fun h2 => by omega) _ rfl rfl rfl
    have h : ((false || decide (i < 0)) || decide (i ≥ (((iList U).length : Nat) : Int))) = false := h
    rw [iList_len] at h
    simp only [Bool.false_or, Bool.or_eq_false_iff, decide_eq_false_iff_not] at h
    have hi0 : 0 ≤ i := by omega
    have hin : i < U.length := by omega
    obtain ⟨k, rfl⟩ : ∃ k : Nat, i = k := ⟨i.toNat, by omega⟩
    have hkU : k < U.length := by omega
    have hkU2 : k ≤ U.length := by omega
    have hUk : U[k] = nib p k := by
      have : U[k]? = some (nib p k) := by
        rw [hU, List.getElem?_take, if_pos (by omega), slots_get p k (by omega)]
      simpa [hkU] using this
    have hbw0 := box_set (S.newBox bw (ti89.zero.cells.toList.map constLV)) bw [.sl .sh (iList U), .sl .sh (iList F)]
    repeat (first | refine LOps.nil ?_ | refine andThen_normal ?_ | refine andThen_exit ?_ | refine andThen_ret ?_ | refine inBlock_normal ?_ | refine inBlock_ret ?_ | refine inBlock_here ?_ | refine inBlock_out rfl ?_ | refine LWp.seq ?_ | refine LWp.region ?_ | refine LWp.block ?_ | refine LWp.exit ?_ | refine LWp.ret ?_ | refine LWp.skip ?_ | refine LOps.valA ?_ | refine LOps.outA ?_ | refine LOps.whenA ?_ | refine LOps.pickA ?_ | refine LOps.storeA ?_)
    refine LOps.do (LDo.appendN hD rfl rfl rfl rfl rfl rfl rfl rfl rfl (show [].length = 0 from rfl) (iList_len (U.take k)) (show Owned _ _ 0 .nil from rfl) (iList_one _) (by simp; omega)) rfl rfl rfl ?_
    rintro _ S1 ⟨o1, rfl, hown1, hup1, hnew1⟩
    have hle1 := hle0.upto hup1 (.nil S)
    have hx1 := (Out.nil S).next hle0 hnew1
    have hb1 := hup1.box _ _ hbw0
    clear hbw0
    repeat (first | refine LOps.val (LVal.dropLit hD rfl rfl rfl (m := k + 1) rfl rfl rfl rfl (by omega) rfl (fun _ _ => rfl)) rfl rfl rfl ?_ | refine LOps.nil ?_ | refine andThen_normal ?_ | refine andThen_exit ?_ | refine andThen_ret ?_ | refine inBlock_normal ?_ | refine inBlock_ret ?_ | refine inBlock_here ?_ | refine inBlock_out rfl ?_ | refine LWp.seq ?_ | refine LWp.region ?_ | refine LWp.block ?_ | refine LWp.exit ?_ | refine LWp.ret ?_ | refine LWp.skip ?_ | refine LOps.valA ?_ | refine LOps.outA ?_ | refine LOps.whenA ?_ | refine LOps.pickA ?_ | refine LOps.storeA ?_)
    refine LOps.do (LDo.appendN hD rfl rfl rfl rfl rfl rfl rfl rfl rfl (show _ = k by simp; omega) (iList_len (U.drop (k + 1))) (hown1.ofN (by simp; omega)) (iList_one _) (by simp; omega)) rfl rfl rfl ?_
    rintro _ S2 ⟨o2, rfl, hown2, hup2, hnew2⟩
    have hle2 := hle1.upto hup2 hx1
    have hx2 := hx1.next hle1 hnew2
    have hb2 := hup2.box _ _ hb1
    clear hb1
    repeat (first | (refine LOps.do (LDo.oneSlice hD rfl rfl rfl rfl rfl rfl rfl rfl rfl rfl) rfl rfl rfl ?_; rintro _ _ ⟨bs, hbs, rfl, rfl⟩) | refine LOps.nil ?_ | refine andThen_normal ?_ | refine andThen_exit ?_ | refine andThen_ret ?_ | refine inBlock_normal ?_ | refine inBlock_ret ?_ | refine inBlock_here ?_ | refine inBlock_out rfl ?_ | refine LWp.seq ?_ | refine LWp.region ?_ | refine LWp.block ?_ | refine LWp.exit ?_ | refine LWp.ret ?_ | refine LWp.skip ?_ | refine LOps.valA ?_ | refine LOps.outA ?_ | refine LOps.whenA ?_ | refine LOps.pickA ?_ | refine LOps.storeA ?_)
    refine LOps.do (LDo.appendN hD rfl rfl rfl rfl rfl rfl rfl rfl rfl (show _ = 1 from rfl) (iList_len F) (.new _ _ _ _) (iList_one _) (by omega)) rfl rfl rfl ?_
    rintro _ S3 ⟨o3, rfl, hown3, hup3, hnew3⟩
    have hle3 := (hle2.setBox hbw.box [.sl o2 ([] ++ iList (U.take k) ++ iList (U.drop (k + 1))), .sl .sh (iList F)]).newRow hbs 3 1 |>.upto hup3 (Out.fresh (hle2.setBox hbw.box _) hbs)
    have hb3 := hup3.box bw [.sl o2 ([] ++ iList (U.take k) ++ iList (U.drop (k + 1))), .sl .sh (iList F)] (box_set _ _ _)
    repeat (first | refine LOps.nil ?_ | refine andThen_normal ?_ | refine andThen_exit ?_ | refine andThen_ret ?_ | refine inBlock_normal ?_ | refine inBlock_ret ?_ | refine inBlock_here ?_ | refine inBlock_out rfl ?_ | refine LWp.seq ?_ | refine LWp.region ?_ | refine LWp.block ?_ | refine LWp.exit ?_ | refine LWp.ret ?_ | refine LWp.skip ?_ | refine LOps.valA ?_ | refine LOps.outA ?_ | refine LOps.whenA ?_ | refine LOps.pickA ?_ | refine LOps.storeA ?_)
    have e : [] ++ iList (U.take k) ++ iList (U.drop (k + 1)) = iList (U.take k ++ U.drop (k + 1)) := by simp
    have e2 : [[iv (U[k] : Nat)]] ++ iList F = iList (nib p k :: F) := by rw [hUk]; simp
    have hlt := slots_lt p
    refine LOps.valG (LVal.call rfl (show _ = [TV.agg [.sl .sh (iList (U.take k ++ U.drop (k + 1))), .sl .sh (iList (nib p k :: F))]] by rw [← e, ← e2]; rfl) (by rw [hP]; exact Try.func65) rfl (by decide)
      (put_F hP _ _ (by simp; omega) (fun x hx => ?_))) rfl rfl rfl ?_
    · rw [hU, hF] at hx
      simp only [List.mem_append, List.mem_cons] at hx
      rcases hx with (hx | hx) | rfl | hx
      · exact hlt x (List.mem_of_mem_take (List.mem_of_mem_take hx))
      · exact hlt x (List.mem_of_mem_take (List.mem_of_mem_drop hx))
      · exact Nat.mod_lt _ (by omega)
      · exact hlt x (List.mem_of_mem_drop hx)
    repeat (first | refine LOps.nil ?_ | refine andThen_normal ?_ | refine andThen_exit ?_ | refine andThen_ret ?_ | refine inBlock_normal ?_ | refine inBlock_ret ?_ | refine inBlock_here ?_ | refine inBlock_out rfl ?_ | refine LWp.seq ?_ | refine LWp.region ?_ | refine LWp.block ?_ | refine LWp.exit ?_ | refine LWp.ret ?_ | refine LWp.skip ?_ | refine LOps.valA ?_ | refine LOps.outA ?_ | refine LOps.whenA ?_ | refine LOps.pickA ?_ | refine LOps.storeA ?_)
    refine ⟨_, (LRes.many rfl rfl (.cons (.tmp _) (.cons (.tmp _) (.cons (.tmp _) .nil)))).sh, ?_, hle3.setBox hbw.box _⟩
    have hw : wd (U.take k ++ U.drop (k + 1)).length ((U.take k ++ U.drop (k + 1)) ++ nib p k :: F) = remW p k := by
      rw [← remW_parts p k (by omega), ← hn, ← hU, ← hF]
      congr 1
      simp; omega
    have hR : remR p k = yesR (remW p k) (nib p k) := by
      unfold remR
      rw [if_pos ⟨rt_yes hr, by omega, by omega⟩]; rfl
    rw [hR, ← hw, ← hUk]; rfl
  · rw [ofR_no hr] at hof
    repeat (first | refine LOps.valG (LVal.call rfl rfl (by rw [hP]; exact Try.func50) rfl (by decide) hof) rfl rfl rfl ?_ | refine LOps.nil ?_ | refine andThen_normal ?_ | refine andThen_exit ?_ | refine andThen_ret ?_ | refine inBlock_normal ?_ | refine inBlock_ret ?_ | refine inBlock_here ?_ | refine inBlock_out rfl ?_ | refine LWp.seq ?_ | refine LWp.region ?_ | refine LWp.block ?_ | refine LWp.exit ?_ | refine LWp.ret ?_ | refine LWp.skip ?_ | refine LOps.valA ?_ | refine LOps.outA ?_ | refine LOps.whenA ?_ | refine LOps.pickA ?_ | refine LOps.storeA ?_)
    refine LOps.do (LDo.alloc hD rfl rfl rfl) rfl rfl rfl ?_
    rintro _ _ ⟨bw, hbw, rfl, rfl⟩
    repeat (first | refine LOps.nil ?_ | refine andThen_normal ?_ | refine andThen_exit ?_ | refine andThen_ret ?_ | refine inBlock_normal ?_ | refine inBlock_ret ?_ | refine inBlock_here ?_ | refine inBlock_out rfl ?_ | refine LWp.seq ?_ | refine LWp.region ?_ | refine LWp.block ?_ | refine LWp.exit ?_ | refine LWp.ret ?_ | refine LWp.skip ?_ | refine LOps.valA ?_ | refine LOps.outA ?_ | refine LOps.whenA ?_ | refine LOps.pickA ?_ | refine LOps.storeA ?_)
    refine LWp.condT rfl ?_
    repeat (first | refine LOps.nil ?_ | refine andThen_normal ?_ | refine andThen_exit ?_ | refine andThen_ret ?_ | refine inBlock_normal ?_ | refine inBlock_ret ?_ | refine inBlock_here ?_ | refine inBlock_out rfl ?_ | refine LWp.seq ?_ | refine LWp.region ?_ | refine LWp.block ?_ | refine LWp.exit ?_ | refine LWp.ret ?_ | refine LWp.skip ?_ | refine LOps.valA ?_ | refine LOps.outA ?_ | refine LOps.whenA ?_ | refine LOps.pickA ?_ | refine LOps.storeA ?_)
    refine ⟨_, (LRes.many rfl rfl (.cons (.tmp _) (.cons (.tmp _) (.cons (.tmp _) .nil)))).sh, ?_, ((LS.le.refl S).newBox hbw _).setBox hbw.box _⟩
    rw [← remR_no (fun h => by rw [rt_no hr] at h; cases h.1)]; rfl

theorem refRem_F {G : Ctx} (hP : G.P = Try.prog) (p : Nat) (i : Int) (hp : p < 18446744073709551616) : LFun G 59 [.one (.v (.int .u64 p)), .one (iv i)] (remR p i) := LFun.of (refRem_L hP p i hp)
end Go.Proofs.Ytgkjhlmfgaaddaa.LF
end

section
/- perm over the frame: its contracts, and what a range over All yields. -/
namespace Go.Proofs.Ytgkjhlmfgaaddaa.LF
open Go.RowKit

theorem calls_same {P : Program} {f : FuncId} {args : Array Value} {w : World} {v : Value} (h : Calls P f args w fun e w' => e = .returned v ∧ w = w') : Calls P f args w fun e w' => e = .returned v ∧ Below w.heap.size w w' :=
  h.mono fun _ _ ⟨h1, h2⟩ => ⟨h1, h2 ▸ Below.refl _ _⟩

theorem right_F {G : Ctx} (hP : G.P = Try.prog) (p : Nat) (hp : p < 18446744073709551616) : LFun G 46 [.one (.v (.int .u64 p))] (.one (.v (.bool (rt (slots p))))) :=
  .flat [.int .u64 p] rfl rfl fun w => by rw [hP]; exact calls_same (right_any p w hp)
theorem len_F {G : Ctx} (hP : G.P = Try.prog) (p : Nat) (hp : p < 18446744073709551616) : LFun G 48 [.one (.v (.int .u64 p))] (.one (iv ((p % 16 : Nat) : Int))) :=
  .flat [.int .u64 p] rfl rfl fun w => by rw [hP]; exact calls_same (len_any p w hp)
theorem empty_F {G : Ctx} (hP : G.P = Try.prog) : LFun G 57 [] (.one (.v (.int .u64 17134975606245761280))) :=
  .flat [] rfl rfl fun w => by
    rw [hP]; exact (empty_any w).mono fun e w' h => by obtain ⟨h1, h2⟩ := h; exact ⟨h1, by first | exact h2 | exact h2 ▸ Below.refl _ _⟩
def atR (p : Nat) (i : Int) : Int := if 0 ≤ i ∧ i < 15 then (nib p i.toNat : Nat) else -1
theorem at_F {G : Ctx} (hP : G.P = Try.prog) (p : Nat) (i : Int) (hp : p < 18446744073709551616) : LFun G 47 [.one (.v (.int .u64 p)), .one (iv i)] (.one (iv (atR p i))) :=
  .flat [.int .u64 p, .int .i64 i] rfl rfl fun w => by
    rw [hP]
    unfold atR
    by_cases h : 0 ≤ i ∧ i < 15
    · rw [if_pos h]
      obtain ⟨k, rfl⟩ : ∃ k : Nat, i = k := ⟨i.toNat, by omega⟩
      exact calls_same (at_in p k w hp (by omega))
    · rw [if_neg h]
      exact calls_same (at_out p i w (by omega))
theorem ins_F {G : Ctx} (hP : G.P = Try.prog) (p : Nat) (i : Int) (hp : p < 18446744073709551616) : LFun G 49 [.one (.v (.int .u64 p)), .one (iv i)] (insR p i) := by
  unfold insR
  by_cases h : rt (slots p) = true ∧ p % 16 < 15 ∧ 0 ≤ i ∧ i ≤ (p % 16 : Nat)
  · rw [if_pos h]
    obtain ⟨k, rfl⟩ : ∃ k : Nat, i = k := ⟨i.toNat, by omega⟩
    exact .flatT [.int .u64 p, .int .i64 k] [.int .u64 (insW p k : Nat), .int .i64 (nib p (p % 16) : Nat), .bool true] rfl rfl fun w => by rw [hP]; exact insert_yes p k w hp ((rt_iff _).1 h.1) h.2.1 (by omega)
  · rw [if_neg h]
    exact .flatT [.int .u64 p, .int .i64 i] [.int .u64 p, .int .i64 (-1), .bool false] rfl rfl fun w => by
      rw [hP]
      refine calls_same (insert_no p i w hp ?_)
      by_cases hr : Rt (slots p)
      · exact .inr (by have h2 : ¬ (p % 16 < 15 ∧ 0 ≤ i ∧ i ≤ (p % 16 : Nat)) := fun h2 => h ⟨rt_yes hr, h2⟩; omega)
      · exact .inl hr
theorem rem_F {G : Ctx} (hP : G.P = Try.prog) (p : Nat) (i : Int) (hp : p < 18446744073709551616) : LFun G 56 [.one (.v (.int .u64 p)), .one (iv i)] (remR p i) := by
  unfold remR
  by_cases h : rt (slots p) = true ∧ 0 ≤ i ∧ i < (p % 16 : Nat)
  · rw [if_pos h]
    obtain ⟨k, rfl⟩ : ∃ k : Nat, i = k := ⟨i.toNat, by omega⟩
    exact .flatT [.int .u64 p, .int .i64 k] [.int .u64 (remW p k : Nat), .int .i64 (nib p k : Nat), .bool true] rfl rfl fun w => by rw [hP]; exact remove_yes p k w hp ((rt_iff _).1 h.1) (by omega)
  · rw [if_neg h]
    exact .flatT [.int .u64 p, .int .i64 i] [.int .u64 p, .int .i64 (-1), .bool false] rfl rfl fun w => by
      rw [hP]
      refine calls_same (remove_no p i w hp ?_)
      by_cases hr : Rt (slots p)
      · exact .inr (by have h2 : ¬ (0 ≤ i ∧ i < (p % 16 : Nat)) := fun h2 => h ⟨rt_yes hr, h2⟩; omega)
      · exact .inl hr

theorem all_L {G : Ctx} (hP : G.P = Try.prog) (p : Nat) (S : LS) :
    LCalls G 51 [.one (.v (.int .u64 p))] (fun r S' => ∃ b, S.fresh b ∧ r = .one (.v (.func (.func 63) #[] #[.pointer (some ⟨b, 0, none⟩)])) ∧ S' = S.newBox b [.v (.int .u64 p)]) S := by
  have hD : TabOK G.P D := by rw [hP]; exact hD0
  refine LCalls.enter (fn := Try.f51) (by rw [hP]; exact Try.func51) rfl rfl ?_
  repeat (first | refine LOps.nil ?_ | refine andThen_normal ?_ | refine andThen_exit ?_ | refine andThen_ret ?_ | refine inBlock_normal ?_ | refine inBlock_ret ?_ | refine inBlock_here ?_ | refine inBlock_out rfl ?_ | refine LWp.seq ?_ | refine LWp.region ?_ | refine LWp.block ?_ | refine LWp.exit ?_ | refine LWp.ret ?_ | refine LWp.skip ?_ | refine LOps.valA ?_ | refine LOps.outA ?_ | refine LOps.whenA ?_ | refine LOps.pickA ?_ | refine LOps.storeA ?_)
  refine LOps.do (LDo.box rfl rfl) rfl rfl rfl ?_
  rintro _ _ ⟨b, hb, rfl, rfl⟩
  repeat (first | refine LOps.val (LVal.makeFunc rfl (vs := [.pointer (some ⟨b, 0, none⟩)]) rfl) rfl rfl rfl ?_ | refine LOps.nil ?_ | refine andThen_normal ?_ | refine andThen_exit ?_ | refine andThen_ret ?_ | refine inBlock_normal ?_ | refine inBlock_ret ?_ | refine inBlock_here ?_ | refine inBlock_out rfl ?_ | refine LWp.seq ?_ | refine LWp.region ?_ | refine LWp.block ?_ | refine LWp.exit ?_ | refine LWp.ret ?_ | refine LWp.skip ?_ | refine LOps.valA ?_ | refine LOps.outA ?_ | refine LOps.whenA ?_ | refine LOps.pickA ?_ | refine LOps.storeA ?_)
  exact ⟨_, LRes.one rfl, b, hb, rfl, rfl⟩

/-- How many are in use, if the word is right. -/
def usedN (p : Nat) : Nat := if rt (slots p) then p % 16 else 0
def yields (p : Nat) : List (List TV) := (List.range (usedN p)).map fun k => [.one (iv (k : Nat)), .one (iv (nib p k : Nat))]

theorem all_iter {G : Ctx} (hP : G.P = Try.prog) (p B : Nat) (hp : p < 18446744073709551616) :
    LIter G 63 #[.pointer (some ⟨B, 0, none⟩)] (fun S => S.box B = some [.v (.int .u64 p)]) (yields p) := by
  intro l I Ix S hI hIx hC hY h0
  have hD : TabOK G.P D := by rw [hP]; exact hD0
  have hB := hC 0 S h0
  have hlen : (yields p).length = usedN p := by simp [yields]
  rw [hlen]
  refine LCalls.enter (fn := Try.f63) (by rw [hP]; exact Try.func63) rfl rfl ?_
  repeat (first | refine LOps.val (LVal.call rfl rfl (by rw [hP]; exact Try.func46) rfl (by decide) (right_F hP p hp)) rfl rfl rfl ?_ | refine LOps.nil ?_ | refine andThen_normal ?_ | refine andThen_exit ?_ | refine andThen_ret ?_ | refine inBlock_normal ?_ | refine inBlock_ret ?_ | refine inBlock_here ?_ | refine inBlock_out rfl ?_ | refine LWp.seq ?_ | refine LWp.region ?_ | refine LWp.block ?_ | refine LWp.exit ?_ | refine LWp.ret ?_ | refine LWp.skip ?_ | refine LOps.valA ?_ | refine LOps.outA ?_ | refine LOps.whenA ?_ | refine LOps.pickA ?_ | refine LOps.storeA ?_)
  refine LWp.cond rfl (fun h => ?_) (fun h => ?_)
  · repeat (first | refine LOps.nil ?_ | refine andThen_normal ?_ | refine andThen_exit ?_ | refine andThen_ret ?_ | refine inBlock_normal ?_ | refine inBlock_ret ?_ | refine inBlock_here ?_ | refine inBlock_out rfl ?_ | refine LWp.seq ?_ | refine LWp.region ?_ | refine LWp.block ?_ | refine LWp.exit ?_ | refine LWp.ret ?_ | refine LWp.skip ?_ | refine LOps.valA ?_ | refine LOps.outA ?_ | refine LOps.whenA ?_ | refine LOps.pickA ?_ | refine LOps.storeA ?_)
    refine ⟨_, LRes.none rfl, .inl ?_⟩
    have : rt (slots p) = false := by simpa using h
    unfold usedN
    rw [this]; exact h0
  have hr : rt (slots p) = true := by simpa using h
  have hu : usedN p = p % 16 := by unfold usedN; rw [hr]; rfl
  rw [hu] at hlen ⊢
  repeat (first | refine LOps.val (LVal.call rfl rfl (by rw [hP]; exact Try.func48) rfl (by decide) (len_F hP p hp)) rfl rfl rfl ?_ | refine LOps.nil ?_ | refine andThen_normal ?_ | refine andThen_exit ?_ | refine andThen_ret ?_ | refine inBlock_normal ?_ | refine inBlock_ret ?_ | refine inBlock_here ?_ | refine inBlock_out rfl ?_ | refine LWp.seq ?_ | refine LWp.region ?_ | refine LWp.block ?_ | refine LWp.exit ?_ | refine LWp.ret ?_ | refine LWp.skip ?_ | refine LOps.valA ?_ | refine LOps.outA ?_ | refine LOps.whenA ?_ | refine LOps.pickA ?_ | refine LOps.storeA ?_)
  refine LWp.loop (fun m T S' => ∃ T' k, k ≤ p % 16 ∧ m = p % 16 - k ∧ I k S' ∧ T = over T' [(0, .one (.v (.func (.yield l) #[] #[]))), (1, .one (.v (.pointer (some ⟨B, 0, none⟩)))), (8, .one (iv ((p % 16 : Nat) : Int))), (9, .one (iv (k : Nat)))]) (p % 16) ?_ ?_
  · exact ⟨_, 0, by omega, rfl, h0, holds.over ⟨rfl, rfl, rfl, rfl, trivial⟩⟩
  rintro m T S' ⟨T', k, hk, rfl, hIk, rfl⟩
  have hB' := hC k S' hIk
  repeat (first | refine LOps.nil ?_ | refine andThen_normal ?_ | refine andThen_exit ?_ | refine andThen_ret ?_ | refine inBlock_normal ?_ | refine inBlock_ret ?_ | refine inBlock_here ?_ | refine inBlock_out rfl ?_ | refine LWp.seq ?_ | refine LWp.region ?_ | refine LWp.block ?_ | refine LWp.exit ?_ | refine LWp.ret ?_ | refine LWp.skip ?_ | refine LOps.valA ?_ | refine LOps.outA ?_ | refine LOps.whenA ?_ | refine LOps.pickA ?_ | refine LOps.storeA ?_)
  refine LWp.cond rfl (fun h => ?_) (fun h => ?_)
  · have hlt : k < p % 16 := by have := of_decide_eq_true h; omega
    have hat : LFun G 47 [.one (.v (.int .u64 p)), .one (iv (k : Nat))] (.one (iv (nib p k : Nat))) := by
      have := at_F hP p (k : Nat) hp
      unfold atR at this
      rwa [if_pos (by omega)] at this
    have hxk : (yields p)[k]? = some [.one (iv (k : Nat)), .one (iv (nib p k : Nat))] := by simp [yields, hu, hlt]
    repeat (first | refine LOps.val (LVal.call rfl rfl (by rw [hP]; exact Try.func47) rfl (by decide) hat) rfl rfl rfl ?_ | refine LOps.nil ?_ | refine andThen_normal ?_ | refine andThen_exit ?_ | refine andThen_ret ?_ | refine inBlock_normal ?_ | refine inBlock_ret ?_ | refine inBlock_here ?_ | refine inBlock_out rfl ?_ | refine LWp.seq ?_ | refine LWp.region ?_ | refine LWp.block ?_ | refine LWp.exit ?_ | refine LWp.ret ?_ | refine LWp.skip ?_ | refine LOps.valA ?_ | refine LOps.outA ?_ | refine LOps.whenA ?_ | refine LOps.pickA ?_ | refine LOps.storeA ?_)
    refine LOps.yield rfl rfl rfl rfl rfl rfl (hY k _ S' hxk hIk) ?_
    rintro r S1 hcase
    repeat (first | refine LOps.nil ?_ | refine andThen_normal ?_ | refine andThen_exit ?_ | refine andThen_ret ?_ | refine inBlock_normal ?_ | refine inBlock_ret ?_ | refine inBlock_here ?_ | refine inBlock_out rfl ?_ | refine LWp.seq ?_ | refine LWp.region ?_ | refine LWp.block ?_ | refine LWp.exit ?_ | refine LWp.ret ?_ | refine LWp.skip ?_ | refine LOps.valA ?_ | refine LOps.outA ?_ | refine LOps.whenA ?_ | refine LOps.pickA ?_ | refine LOps.storeA ?_)
    refine LWp.cond rfl (fun h => ?_) (fun h => ?_)
    · repeat (first | refine LOps.nil ?_ | refine andThen_normal ?_ | refine andThen_exit ?_ | refine andThen_ret ?_ | refine inBlock_normal ?_ | refine inBlock_ret ?_ | refine inBlock_here ?_ | refine inBlock_out rfl ?_ | refine LWp.seq ?_ | refine LWp.region ?_ | refine LWp.block ?_ | refine LWp.exit ?_ | refine LWp.ret ?_ | refine LWp.skip ?_ | refine LOps.valA ?_ | refine LOps.outA ?_ | refine LOps.whenA ?_ | refine LOps.pickA ?_ | refine LOps.storeA ?_)
      refine ⟨_, LRes.none rfl, .inr ⟨k + 1, by omega, ?_⟩⟩
      rcases hcase with ⟨rfl, _⟩ | ⟨_, h2⟩
      · simp at h
      · exact h2
    · repeat (first | refine LOps.nil ?_ | refine andThen_normal ?_ | refine andThen_exit ?_ | refine andThen_ret ?_ | refine inBlock_normal ?_ | refine inBlock_ret ?_ | refine inBlock_here ?_ | refine inBlock_out rfl ?_ | refine LWp.seq ?_ | refine LWp.region ?_ | refine LWp.block ?_ | refine LWp.exit ?_ | refine LWp.ret ?_ | refine LWp.skip ?_ | refine LOps.valA ?_ | refine LOps.outA ?_ | refine LOps.whenA ?_ | refine LOps.pickA ?_ | refine LOps.storeA ?_)
      refine ⟨p % 16 - (k + 1), by omega, _, k + 1, by omega, rfl, ?_, holds.over ⟨rfl, rfl, rfl, rfl, trivial⟩⟩
      rcases hcase with ⟨_, h2⟩ | ⟨rfl, _⟩
      · exact h2
      · simp at h
  · obtain rfl : k = p % 16 := by have := of_decide_eq_false h; omega
    repeat (first | refine LOps.nil ?_ | refine andThen_normal ?_ | refine andThen_exit ?_ | refine andThen_ret ?_ | refine inBlock_normal ?_ | refine inBlock_ret ?_ | refine inBlock_here ?_ | refine inBlock_out rfl ?_ | refine LWp.seq ?_ | refine LWp.region ?_ | refine LWp.block ?_ | refine LWp.exit ?_ | refine LWp.ret ?_ | refine LWp.skip ?_ | refine LOps.valA ?_ | refine LOps.outA ?_ | refine LOps.whenA ?_ | refine LOps.pickA ?_ | refine LOps.storeA ?_)
    exact ⟨_, LRes.none rfl, .inl hIk⟩
end Go.Proofs.Ytgkjhlmfgaaddaa.LF
end
