/- The walk of the law 'BlnodeKids'. -/
import Derived.Test.YtjcpcgneghanfaaLBr
set_option linter.unusedVariables false
set_option linter.unusedSimpArgs false
namespace Go.Proofs.Ytjcpcgneghanfaa.LF
open Go.RowKit
set_option linter.unusedVariables false

theorem bless_list (x y : List UInt8) : Op.bytesLess x y = decide (x < y) := by
  induction x generalizing y with
  | nil => cases y <;> simp [Op.bytesLess]
  | cons a x ih =>
    cases y with
    | nil => simp [Op.bytesLess]
    | cons b y => rw [Op.bytesLess, ih, Bool.eq_iff_iff]; simp [List.cons_lt_cons_iff]
theorem bless (a b : ByteArray) : Op.bytesLess a.toList b.toList = ltS a b := by
  rw [bless_list, Lib.toList_data, Lib.toList_data]; rfl
theorem bleq (a b : ByteArray) : (Op.bytesLess a.toList b.toList || a.toList == b.toList) = !ltS b a := by
  rw [bless, toList_eq]
  by_cases h : a = b
  · subst h; simp [ltS_irrefl]
  · rw [decide_eq_false h, Bool.or_false]
    cases h1 : ltS a b with
    | true => rw [ltS_asymm h1]; rfl
    | false =>
      cases h2 : ltS b a with
      | true => rfl
      | false => exact absurd (ltS_total h1 h2) h
section
variable {G : Ctx} {o : Oper} {T : Nat → TV} {S : LS} {t u : TypeId} {x y : Operand} {a b : ByteArray}
theorem LVal.lssStr (ho : o.op = .binOp .lss t x y u) (hx : lev T x = .one (.v (.string a))) (hy : lev T y = .one (.v (.string b))) : LVal G o T S (.one (bv (ltS a b))) :=
  LVal.to (LVal.binOp (D := []) (fun _ h => by cases h) ho hx hy rfl) (by exact congrArg (fun b => TV.one (bv b)) (bless a b))
theorem LVal.leqStr (ho : o.op = .binOp .leq t x y u) (hx : lev T x = .one (.v (.string a))) (hy : lev T y = .one (.v (.string b))) : LVal G o T S (.one (bv (!ltS b a))) :=
  LVal.to (LVal.binOp (D := []) (fun _ h => by cases h) ho hx hy rfl) (by exact congrArg (fun b => TV.one (bv b)) (bleq a b))
theorem LVal.gtrStr (ho : o.op = .binOp .gtr t x y u) (hx : lev T x = .one (.v (.string a))) (hy : lev T y = .one (.v (.string b))) : LVal G o T S (.one (bv (ltS b a))) :=
  LVal.to (LVal.binOp (D := []) (fun _ h => by cases h) ho hx hy rfl) (by exact congrArg (fun b => TV.one (bv b)) (by rw [bleq, Bool.not_not]))
theorem LVal.geqStr (ho : o.op = .binOp .geq t x y u) (hx : lev T x = .one (.v (.string a))) (hy : lev T y = .one (.v (.string b))) : LVal G o T S (.one (bv (!ltS a b))) :=
  LVal.to (LVal.binOp (D := []) (fun _ h => by cases h) ho hx hy rfl) (by exact congrArg (fun b => TV.one (bv b)) (by rw [bless]))
end

theorem kid_no {n : NdV} {k : ByteArray} (h : (kidN n k).2 = false) : kidN n k = (noHd, false) := by
  unfold kidN at h ⊢
  split
  · rfl
  · rename_i hh; rw [if_neg hh] at h; cases h
/-- What was found of the keys above, up to a place. -/
def AboveTo (n : NdV) (sep : ByteArray) (j : Nat) (ab : Bool) (nx : ByteArray) : Prop :=
  (ab = false ∧ ∀ i (hi : i < n.keys.length), i < j → ltS sep n.keys[i] = false) ∨ (ab = true ∧ ∃ (i : Nat) (hi : i < n.keys.length), nx = n.keys[i] ∧ ltS sep n.keys[i] = true ∧ ∀ q (hq : q < i), ltS sep (n.keys[q]'(by omega)) = false)

set_option maxHeartbeats 32000000 in
set_option maxRecDepth 20000 in
theorem kids_L {G : Ctx} (hP : G.P = Try.prog) (n : NdV) (hz : n.sz) (sep key : ByteArray) (kid : HdV) (S : LS) : LCalls G 4 [.agg (ndL n), .one (sv sep), .one (sv key), .agg (hdL kid)] (fun r _ => r = .one (bv true)) S := by
  have hD : TabOK G.P D := by rw [hP]; exact hD0
  have eh : EqTy G.P D 26 := by rw [hP]; exact ⟨by kernel_rfl, by kernel_rfl⟩
  have ca := awake_F hP
  have cg := great_F hP n hz
  haveI : Inhabited ByteArray := ⟨noBytes⟩
  refine LCalls.enter (fn := Try.f4) (by rw [hP]; exact Try.func4) rfl rfl ?_
  repeat (first | refine LOps.nil ?_ | refine andThen_normal ?_ | refine andThen_exit ?_ | refine andThen_ret ?_ | refine inBlock_normal ?_ | refine inBlock_ret ?_ | refine inBlock_here ?_ | refine inBlock_out rfl ?_ | refine LWp.seq ?_ | refine LWp.region ?_ | refine LWp.block ?_ | refine LWp.exit ?_ | refine LWp.ret ?_ | refine LWp.skip ?_ | refine LOps.valA ?_ | refine LOps.outA ?_ | refine LOps.whenA ?_ | refine LOps.pickA ?_ | refine LOps.storeA ?_)
  have hle := LS.le.refl S
  refine LOps.do (LDo.box rfl rfl) rfl rfl rfl ?_
  rintro _ _ ⟨b4, hb4, rfl, rfl⟩
  have s4 := hle.none hb4
  refine LOps.gen (fun S' => S.le S' ∧ S'.box b4 = some (ndL n)) ⟨hle.newBox hb4 _, box_new _ _ _⟩ ?_
  clear hle hb4 
  rintro S4 ⟨hle, k4⟩
  skip
  refine LOps.do (LDo.box rfl rfl) rfl rfl rfl ?_
  rintro _ _ ⟨b7, hb7, rfl, rfl⟩
  have n4_7 := fresh_ne hb7 k4
  have m7_4 := n4_7.symm
  have s7 := hle.none hb7
  refine LOps.gen (fun S' => S.le S' ∧ S'.box b4 = some (ndL n) ∧ S'.box b7 = some (hdL kid)) ⟨hle.newBox hb7 _, (box_new_ne _ _ n4_7).trans k4, box_new _ _ _⟩ ?_
  clear hle hb7 k4
  rintro S7 ⟨hle, k4, k7⟩
  repeat (first | refine LOps.nil ?_ | refine andThen_normal ?_ | refine andThen_exit ?_ | refine andThen_ret ?_ | refine inBlock_normal ?_ | refine inBlock_ret ?_ | refine inBlock_here ?_ | refine inBlock_out rfl ?_ | refine LWp.seq ?_ | refine LWp.region ?_ | refine LWp.block ?_ | refine LWp.exit ?_ | refine LWp.ret ?_ | refine LWp.skip ?_ | refine LOps.val (LVal.call rfl rfl (by rw [hP]; exact Try.func10) rfl (by decide) (ca)) rfl rfl rfl ?_ | refine LOps.whenC (LVal.call rfl rfl (by rw [hP]; exact Try.func10) rfl (by decide) (ca)) ?_ | refine LOps.valA ?_ | refine LOps.outA ?_ | refine LOps.whenA ?_ | refine LOps.pickA ?_ | refine LOps.storeA ?_)
  refine LWp.condF rfl ?_
  repeat (first | refine LOps.valH (LVal.load hD rfl rfl k4 rfl rfl) ?_ | refine LOps.nil ?_ | refine andThen_normal ?_ | refine andThen_exit ?_ | refine andThen_ret ?_ | refine inBlock_normal ?_ | refine inBlock_ret ?_ | refine inBlock_here ?_ | refine inBlock_out rfl ?_ | refine LWp.seq ?_ | refine LWp.region ?_ | refine LWp.block ?_ | refine LWp.exit ?_ | refine LWp.ret ?_ | refine LWp.skip ?_ | refine LOps.val (LVal.call rfl rfl (by rw [hP]; exact Try.func11) rfl (by decide) (cg)) rfl rfl rfl ?_ | refine LOps.whenC (LVal.call rfl rfl (by rw [hP]; exact Try.func11) rfl (by decide) (cg)) ?_ | refine LOps.valA ?_ | refine LOps.outA ?_ | refine LOps.whenA ?_ | refine LOps.pickA ?_ | refine LOps.storeA ?_)
  refine LWp.cond rfl (fun h => ?_) (fun h => ?_)
  · repeat (first | refine LOps.nil ?_ | refine andThen_normal ?_ | refine andThen_exit ?_ | refine andThen_ret ?_ | refine inBlock_normal ?_ | refine inBlock_ret ?_ | refine inBlock_here ?_ | refine inBlock_out rfl ?_ | refine LWp.seq ?_ | refine LWp.region ?_ | refine LWp.block ?_ | refine LWp.exit ?_ | refine LWp.ret ?_ | refine LWp.skip ?_ | refine LOps.valA ?_ | refine LOps.outA ?_ | refine LOps.whenA ?_ | refine LOps.pickA ?_ | refine LOps.storeA ?_)
    exact ⟨_, LRes.one rfl, rfl⟩
  have h : ((greatN n || decide ((sep.size : Int) > 2000)) || decide ((key.size : Int) > 2000)) = false := h
  simp only [Bool.or_eq_false_iff] at h
  have hg := greatN_ok h.1.1
  clear h
  have hn : n.ok := ⟨by omega, by omega, by omega⟩
  have c20 := kid_F hP n hn key
  have c16 := right_F hP n hn
  have c17 := covers_F hP n key
  have e2 := kidN_is n key
  cases hq : (kidN n key).2 with
  | false =>
    rw [hq] at e2
    rw [kid_no hq] at c20
    repeat (first | refine LOps.valH (LVal.load hD rfl rfl k4 rfl rfl) ?_ | refine LOps.nil ?_ | refine andThen_normal ?_ | refine andThen_exit ?_ | refine andThen_ret ?_ | refine inBlock_normal ?_ | refine inBlock_ret ?_ | refine inBlock_here ?_ | refine inBlock_out rfl ?_ | refine LWp.seq ?_ | refine LWp.region ?_ | refine LWp.block ?_ | refine LWp.exit ?_ | refine LWp.ret ?_ | refine LWp.skip ?_ | refine LOps.val (LVal.call rfl rfl (by rw [hP]; exact Try.func20) rfl (by decide) (c20)) rfl rfl rfl ?_ | refine LOps.whenC (LVal.call rfl rfl (by rw [hP]; exact Try.func20) rfl (by decide) (c20)) ?_ | refine LOps.valA ?_ | refine LOps.outA ?_ | refine LOps.whenA ?_ | refine LOps.pickA ?_ | refine LOps.storeA ?_)
    skip
    refine LOps.do (LDo.alloc hD rfl rfl rfl) rfl rfl rfl ?_
    rintro _ _ ⟨b9, hb9, rfl, rfl⟩
    have n4_9 := fresh_ne hb9 k4
    have m9_4 := n4_9.symm
    have n7_9 := fresh_ne hb9 k7
    have m9_7 := n7_9.symm
    have s9 := hle.none hb9
    refine LOps.gen (fun S' => S.le S' ∧ S'.box b4 = some (ndL n) ∧ S'.box b7 = some (hdL kid) ∧ S'.box b9 = some (hdL noHd)) ⟨hle.newBox hb9 _, (box_new_ne _ _ n4_9).trans k4, (box_new_ne _ _ n7_9).trans k7, box_new _ _ _⟩ ?_
    clear hle hb9 k4 k7
    rintro S9 ⟨hle, k4, k7, k9⟩
    repeat (first | refine LOps.nil ?_ | refine andThen_normal ?_ | refine andThen_exit ?_ | refine andThen_ret ?_ | refine inBlock_normal ?_ | refine inBlock_ret ?_ | refine inBlock_here ?_ | refine inBlock_out rfl ?_ | refine LWp.seq ?_ | refine LWp.region ?_ | refine LWp.block ?_ | refine LWp.exit ?_ | refine LWp.ret ?_ | refine LWp.skip ?_ | refine LOps.valA ?_ | refine LOps.outA ?_ | refine LOps.whenA ?_ | refine LOps.pickA ?_)
    refine LOps.storeA (b := b9) (off := 0) (cs := hdL noHd) (l := hdL noHd) ?_
    refine LOps.gen (fun S' => S.le S' ∧ S'.box b4 = some (ndL n) ∧ S'.box b7 = some (hdL kid) ∧ S'.box b9 = some (hdL noHd)) ⟨hle.setBox s9 _, (box_set_ne _ _ n4_9).trans k4, (box_set_ne _ _ n7_9).trans k7, (box_set _ _ _).trans (congrArg some (rfl))⟩ ?_
    clear hle k4 k7 k9
    rintro Ss ⟨hle, k4, k7, k9⟩
    repeat (first | refine LOps.valH (LVal.load hD rfl rfl k4 rfl rfl) ?_ | refine LOps.nil ?_ | refine andThen_normal ?_ | refine andThen_exit ?_ | refine andThen_ret ?_ | refine inBlock_normal ?_ | refine inBlock_ret ?_ | refine inBlock_here ?_ | refine inBlock_out rfl ?_ | refine LWp.seq ?_ | refine LWp.region ?_ | refine LWp.block ?_ | refine LWp.exit ?_ | refine LWp.ret ?_ | refine LWp.skip ?_ | refine LOps.val (LVal.call rfl rfl (by rw [hP]; exact Try.func16) rfl (by decide) (c16)) rfl rfl rfl ?_ | refine LOps.val (LVal.call rfl rfl (by rw [hP]; exact Try.func17) rfl (by decide) (c17)) rfl rfl rfl ?_ | refine LOps.whenC (LVal.call rfl rfl (by rw [hP]; exact Try.func16) rfl (by decide) (c16)) ?_ | refine LOps.whenC (LVal.call rfl rfl (by rw [hP]; exact Try.func17) rfl (by decide) (c17)) ?_ | refine LOps.valA ?_ | refine LOps.outA ?_ | refine LOps.whenA ?_ | refine LOps.pickA ?_ | refine LOps.storeA ?_)
    refine LWp.cond rfl (fun hx => ?_) (fun hx => ?_)
    · exfalso
      revert hx e2
      cases rightN n <;> cases coversN n key <;> cases n.leaf <;> decide
    repeat (first | refine LOps.nil ?_ | refine andThen_normal ?_ | refine andThen_exit ?_ | refine andThen_ret ?_ | refine inBlock_normal ?_ | refine inBlock_ret ?_ | refine inBlock_here ?_ | refine inBlock_out rfl ?_ | refine LWp.seq ?_ | refine LWp.region ?_ | refine LWp.block ?_ | refine LWp.exit ?_ | refine LWp.ret ?_ | refine LWp.skip ?_ | refine LOps.valA ?_ | refine LOps.outA ?_ | refine LOps.whenA ?_ | refine LOps.pickA ?_ | refine LOps.storeA ?_)
    refine LWp.condT rfl ?_
    repeat (first | refine LOps.nil ?_ | refine andThen_normal ?_ | refine andThen_exit ?_ | refine andThen_ret ?_ | refine inBlock_normal ?_ | refine inBlock_ret ?_ | refine inBlock_here ?_ | refine inBlock_out rfl ?_ | refine LWp.seq ?_ | refine LWp.region ?_ | refine LWp.block ?_ | refine LWp.exit ?_ | refine LWp.ret ?_ | refine LWp.skip ?_ | refine LOps.valA ?_ | refine LOps.outA ?_ | refine LOps.whenA ?_ | refine LOps.pickA ?_ | refine LOps.storeA ?_)
    exact ⟨_, LRes.one rfl, rfl⟩
  | true =>
    rw [hq] at e2
    have e3 := e2.symm
    rw [Bool.and_eq_true, Bool.and_eq_true] at e3
    have hr := e3.1.1
    have hck := e3.1.2
    have hl : n.leaf = false := by simpa using e3.2
    have hrs := rightN_rises hr
    have hix := idxN_lt (k := key) hr hl
    obtain ⟨hvl, hkl⟩ := rightN_inner hr hl
    have hgd : n.kids.getD (idxN n key) noHd = n.kids[idxN n key] := by rw [List.getD_eq_getElem?_getD, List.getElem?_eq_getElem hix]; rfl
    rw [kid_get hr hl hck, hgd] at c20
    have hml : (n.keys.map sL).length = n.keys.length := List.length_map ..
    repeat (first | refine LOps.valH (LVal.load hD rfl rfl k4 rfl rfl) ?_ | refine LOps.nil ?_ | refine andThen_normal ?_ | refine andThen_exit ?_ | refine andThen_ret ?_ | refine inBlock_normal ?_ | refine inBlock_ret ?_ | refine inBlock_here ?_ | refine inBlock_out rfl ?_ | refine LWp.seq ?_ | refine LWp.region ?_ | refine LWp.block ?_ | refine LWp.exit ?_ | refine LWp.ret ?_ | refine LWp.skip ?_ | refine LOps.val (LVal.call rfl rfl (by rw [hP]; exact Try.func20) rfl (by decide) (c20)) rfl rfl rfl ?_ | refine LOps.whenC (LVal.call rfl rfl (by rw [hP]; exact Try.func20) rfl (by decide) (c20)) ?_ | refine LOps.valA ?_ | refine LOps.outA ?_ | refine LOps.whenA ?_ | refine LOps.pickA ?_ | refine LOps.storeA ?_)
    skip
    refine LOps.do (LDo.alloc hD rfl rfl rfl) rfl rfl rfl ?_
    rintro _ _ ⟨b9, hb9, rfl, rfl⟩
    have n4_9 := fresh_ne hb9 k4
    have m9_4 := n4_9.symm
    have n7_9 := fresh_ne hb9 k7
    have m9_7 := n7_9.symm
    have s9 := hle.none hb9
    refine LOps.gen (fun S' => S.le S' ∧ S'.box b4 = some (ndL n) ∧ S'.box b7 = some (hdL kid) ∧ S'.box b9 = some (hdL noHd)) ⟨hle.newBox hb9 _, (box_new_ne _ _ n4_9).trans k4, (box_new_ne _ _ n7_9).trans k7, box_new _ _ _⟩ ?_
    clear hle hb9 k4 k7
    rintro S9 ⟨hle, k4, k7, k9⟩
    repeat (first | refine LOps.nil ?_ | refine andThen_normal ?_ | refine andThen_exit ?_ | refine andThen_ret ?_ | refine inBlock_normal ?_ | refine inBlock_ret ?_ | refine inBlock_here ?_ | refine inBlock_out rfl ?_ | refine LWp.seq ?_ | refine LWp.region ?_ | refine LWp.block ?_ | refine LWp.exit ?_ | refine LWp.ret ?_ | refine LWp.skip ?_ | refine LOps.valA ?_ | refine LOps.outA ?_ | refine LOps.whenA ?_ | refine LOps.pickA ?_)
    refine LOps.storeA (b := b9) (off := 0) (cs := hdL noHd) (l := hdL n.kids[idxN n key]) ?_
    refine LOps.gen (fun S' => S.le S' ∧ S'.box b4 = some (ndL n) ∧ S'.box b7 = some (hdL kid) ∧ S'.box b9 = some (hdL n.kids[idxN n key])) ⟨hle.setBox s9 _, (box_set_ne _ _ n4_9).trans k4, (box_set_ne _ _ n7_9).trans k7, (box_set _ _ _).trans (congrArg some (rfl))⟩ ?_
    clear hle k4 k7 k9
    rintro Ss ⟨hle, k4, k7, k9⟩
    repeat (first | refine LOps.valH (LVal.load hD rfl rfl k4 rfl rfl) ?_ | refine LOps.nil ?_ | refine andThen_normal ?_ | refine andThen_exit ?_ | refine andThen_ret ?_ | refine inBlock_normal ?_ | refine inBlock_ret ?_ | refine inBlock_here ?_ | refine inBlock_out rfl ?_ | refine LWp.seq ?_ | refine LWp.region ?_ | refine LWp.block ?_ | refine LWp.exit ?_ | refine LWp.ret ?_ | refine LWp.skip ?_ | refine LOps.val (LVal.call rfl rfl (by rw [hP]; exact Try.func16) rfl (by decide) (c16)) rfl rfl rfl ?_ | refine LOps.val (LVal.call rfl rfl (by rw [hP]; exact Try.func17) rfl (by decide) (c17)) rfl rfl rfl ?_ | refine LOps.whenC (LVal.call rfl rfl (by rw [hP]; exact Try.func16) rfl (by decide) (c16)) ?_ | refine LOps.whenC (LVal.call rfl rfl (by rw [hP]; exact Try.func17) rfl (by decide) (c17)) ?_ | refine LOps.valA ?_ | refine LOps.outA ?_ | refine LOps.whenA ?_ | refine LOps.pickA ?_ | refine LOps.storeA ?_)
    refine LWp.cond rfl (fun hx => ?_) (fun hx => ?_)
    · exfalso
      have hx : (!(true == ((rightN n && !n.leaf) && coversN n key)) || (!true && _)) = true := hx
      rw [hr, hl, hck] at hx
      cases hx
    clear hx
    repeat (first | refine LOps.nil ?_ | refine andThen_normal ?_ | refine andThen_exit ?_ | refine andThen_ret ?_ | refine inBlock_normal ?_ | refine inBlock_ret ?_ | refine inBlock_here ?_ | refine inBlock_out rfl ?_ | refine LWp.seq ?_ | refine LWp.region ?_ | refine LWp.block ?_ | refine LWp.exit ?_ | refine LWp.ret ?_ | refine LWp.skip ?_ | refine LOps.valA ?_ | refine LOps.outA ?_ | refine LOps.whenA ?_ | refine LOps.pickA ?_ | refine LOps.storeA ?_)
    refine LWp.condF rfl ?_
    refine LWp.slots [(1, .one (sv sep)), (2, .one (sv key)), (4, ptr b4), (7, ptr b7), (9, ptr b9)] ⟨rfl, rfl, rfl, rfl, rfl, trivial⟩ fun T9 => ?_
    repeat (first | refine LOps.nil ?_ | refine andThen_normal ?_ | refine andThen_exit ?_ | refine andThen_ret ?_ | refine inBlock_normal ?_ | refine inBlock_ret ?_ | refine inBlock_here ?_ | refine inBlock_out rfl ?_ | refine LWp.seq ?_ | refine LWp.region ?_ | refine LWp.block ?_ | refine LWp.exit ?_ | refine LWp.ret ?_ | refine LWp.skip ?_ | refine LOps.valA ?_ | refine LOps.outA ?_ | refine LOps.whenA ?_ | refine LOps.pickA ?_ | refine LOps.storeA ?_)
    refine LWp.loop (fun m T S' => S' = Ss ∧ ∃ (T' : Nat → TV) (j : Nat), j ≤ n.keys.length ∧ m = n.keys.length - j ∧ (∀ i, i < j → ∀ (h : i < n.keys.length), ltS key n.keys[i] = false) ∧ T = over T' [(1, .one (sv sep)), (2, .one (sv key)), (4, ptr b4), (7, ptr b7), (9, ptr b9), (11, .one (iv (j : Nat)))]) n.keys.length ?_ ?_
    · exact ⟨rfl, _, 0, by omega, by omega, fun i hi => by omega, holds.over ⟨rfl, rfl, rfl, rfl, rfl, rfl, trivial⟩⟩
    rintro m T S' ⟨hS, T', j, hj, rfl, hno, rfl⟩
    replace hS := hS.symm
    subst hS
    repeat (first | refine LOps.whenC (LVal.leqStr rfl rfl rfl) ?_ | refine LOps.nil ?_ | refine andThen_normal ?_ | refine andThen_exit ?_ | refine andThen_ret ?_ | refine inBlock_normal ?_ | refine inBlock_ret ?_ | refine inBlock_here ?_ | refine inBlock_out rfl ?_ | refine LWp.seq ?_ | refine LWp.region ?_ | refine LWp.block ?_ | refine LWp.exit ?_ | refine LWp.ret ?_ | refine LWp.skip ?_ | refine LOps.valA ?_ | refine LOps.outA ?_ | refine LOps.whenA ?_ | refine LOps.pickA ?_ | refine LOps.storeA ?_)
    refine LWp.cond rfl (fun h => ?_) (fun h => ?_)
    · have h : (decide ((j : Int) < ((n.keys.map sL).length : Int)) && !ltS key (n.keys.getD j default)) = true := h
      rw [Bool.and_eq_true, decide_eq_true_iff, hml] at h
      have hlt : j < n.keys.length := by omega
      have h2 := h.2
      rw [show n.keys.getD j default = n.keys[j] by rw [List.getD_eq_getElem?_getD, List.getElem?_eq_getElem hlt]; rfl] at h2
      repeat (first | refine LOps.nil ?_ | refine andThen_normal ?_ | refine andThen_exit ?_ | refine andThen_ret ?_ | refine inBlock_normal ?_ | refine inBlock_ret ?_ | refine inBlock_here ?_ | refine inBlock_out rfl ?_ | refine LWp.seq ?_ | refine LWp.region ?_ | refine LWp.block ?_ | refine LWp.exit ?_ | refine LWp.ret ?_ | refine LWp.skip ?_ | refine LOps.valA ?_ | refine LOps.outA ?_ | refine LOps.whenA ?_ | refine LOps.pickA ?_ | refine LOps.storeA ?_)
      refine ⟨n.keys.length - (j + 1), by omega, rfl, _, j + 1, by omega, rfl, fun q hq hl => ?_, holds.over ⟨rfl, rfl, rfl, rfl, rfl, rfl, trivial⟩⟩
      rcases Nat.lt_or_ge q j with h3 | h3
      · exact hno q h3 hl
      · obtain rfl : q = j := by omega
        simpa using h2
    have h : (decide ((j : Int) < ((n.keys.map sL).length : Int)) && !ltS key (n.keys.getD j default)) = false := h
    rw [Bool.and_eq_false_iff, decide_eq_false_iff_not, hml] at h
    have ej : idxN n key = j := idx_of hrs hj (fun q hq hl => hno q hq hl) fun q hq hl => by
      rcases h with h | h
      · omega
      · have hjl : j < n.keys.length := by omega
        rw [show n.keys.getD j default = n.keys[j] by rw [List.getD_eq_getElem?_getD, List.getElem?_eq_getElem hjl]; rfl] at h
        have h : ltS key n.keys[j] = true := by simpa using h
        rcases Nat.eq_or_lt_of_le hq with e | e
        · subst e; exact h
        · exact ltS_trans h (rises_lt hrs e hl)
    subst ej
    clear h hno hj
    repeat (first | refine LOps.nil ?_ | refine andThen_normal ?_ | refine andThen_exit ?_ | refine andThen_ret ?_ | refine inBlock_normal ?_ | refine inBlock_ret ?_ | refine inBlock_here ?_ | refine inBlock_out rfl ?_ | refine LWp.seq ?_ | refine LWp.region ?_ | refine LWp.block ?_ | refine LWp.exit ?_ | refine LWp.ret ?_ | refine LWp.skip ?_ | refine LOps.valA ?_ | refine LOps.outA ?_ | refine LOps.whenA ?_ | refine LOps.pickA ?_ | refine LOps.storeA ?_)
    refine LWp.drawL [0, 1, 2, 3, 4, 5, 6] (by rw [hP]; rfl) rfl ?_
    repeat (first | refine LRl.valH (LVal.load hD rfl rfl k4 rfl rfl) ?_ (fun _ hS => LVal.load hD rfl rfl (hS.box _ _ k4 (by first | exact id | (intro hx; rcases hx with hx | hx <;> omega) | (intro hx; have hx2 : _ = _ := hx; omega) | (intro hx; exact absurd hx.1 (by decide)))) rfl rfl) | refine LRl.valH (LVal.load hD rfl rfl k9 rfl rfl) ?_ (fun _ hS => LVal.load hD rfl rfl (hS.box _ _ k9 (by first | exact id | (intro hx; rcases hx with hx | hx <;> omega) | (intro hx; have hx2 : _ = _ := hx; omega) | (intro hx; exact absurd hx.1 (by decide)))) rfl rfl) | refine LRl.nil ?_ | refine LRl.valA ?_ | refine LRl.outA ?_ | refine LRl.whenA ?_ | refine LRl.pickA ?_)
    repeat (first | refine LOps.nil ?_ | refine andThen_normal ?_ | refine andThen_exit ?_ | refine andThen_ret ?_ | refine inBlock_normal ?_ | refine inBlock_ret ?_ | refine inBlock_here ?_ | refine inBlock_out rfl ?_ | refine LWp.seq ?_ | refine LWp.region ?_ | refine LWp.block ?_ | refine LWp.exit ?_ | refine LWp.ret ?_ | refine LWp.skip ?_ | refine LOps.valA ?_ | refine LOps.outA ?_ | refine LOps.whenA ?_ | refine LOps.pickA ?_ | refine LOps.storeA ?_)
    refine LWp.cond rfl (fun hx => ?_) (fun hx => ?_)
    · exfalso
      have hx : (!eqHd n.kids[idxN n key] n.kids[idxN n key]) = true := hx
      rw [eqHd_iff.2 rfl] at hx; cases hx
    clear hx
    have c14 := find_F hP n hn sep
    have c21 := add_F hP n hn sep kid
    have c18 := covers_F hP n sep
    repeat (first | refine LOps.valH (LVal.load hD rfl rfl k4 rfl rfl) ?_ | refine LOps.valH (LVal.load hD rfl rfl k7 rfl rfl) ?_ | refine LOps.nil ?_ | refine andThen_normal ?_ | refine andThen_exit ?_ | refine andThen_ret ?_ | refine inBlock_normal ?_ | refine inBlock_ret ?_ | refine inBlock_here ?_ | refine inBlock_out rfl ?_ | refine LWp.seq ?_ | refine LWp.region ?_ | refine LWp.block ?_ | refine LWp.exit ?_ | refine LWp.ret ?_ | refine LWp.skip ?_ | refine LOps.val (LVal.call rfl rfl (by rw [hP]; exact Try.func14) rfl (by decide) (c14)) rfl rfl rfl ?_ | refine LOps.val (LVal.call rfl rfl (by rw [hP]; exact Try.func21) rfl (by decide) (c21)) rfl rfl rfl ?_ | refine LOps.whenC (LVal.call rfl rfl (by rw [hP]; exact Try.func14) rfl (by decide) (c14)) ?_ | refine LOps.whenC (LVal.call rfl rfl (by rw [hP]; exact Try.func21) rfl (by decide) (c21)) ?_ | refine LOps.valA ?_ | refine LOps.outA ?_ | refine LOps.whenA ?_ | refine LOps.pickA ?_ | refine LOps.storeA ?_)
    skip
    refine LOps.do (LDo.alloc hD rfl rfl rfl) rfl rfl rfl ?_
    rintro _ _ ⟨b14, hb14, rfl, rfl⟩
    have n4_14 := fresh_ne hb14 k4
    have m14_4 := n4_14.symm
    have n7_14 := fresh_ne hb14 k7
    have m14_7 := n7_14.symm
    have n9_14 := fresh_ne hb14 k9
    have m14_9 := n9_14.symm
    have s14 := hle.none hb14
    refine LOps.gen (fun S' => S.le S' ∧ S'.box b4 = some (ndL n) ∧ S'.box b7 = some (hdL kid) ∧ S'.box b9 = some (hdL n.kids[idxN n key]) ∧ S'.box b14 = some (ndX noNd (.sl .nil []) (.sl .nil []) (.sl .nil []))) ⟨hle.newBox hb14 _, (box_new_ne _ _ n4_14).trans k4, (box_new_ne _ _ n7_14).trans k7, (box_new_ne _ _ n9_14).trans k9, box_new _ _ _⟩ ?_
    clear hle hb14 k4 k7 k9
    rintro S14 ⟨hle, k4, k7, k9, k14⟩
    repeat (first | refine LOps.nil ?_ | refine andThen_normal ?_ | refine andThen_exit ?_ | refine andThen_ret ?_ | refine inBlock_normal ?_ | refine inBlock_ret ?_ | refine inBlock_here ?_ | refine inBlock_out rfl ?_ | refine LWp.seq ?_ | refine LWp.region ?_ | refine LWp.block ?_ | refine LWp.exit ?_ | refine LWp.ret ?_ | refine LWp.skip ?_ | refine LOps.valA ?_ | refine LOps.outA ?_ | refine LOps.whenA ?_ | refine LOps.pickA ?_)
    refine LOps.storeA (b := b14) (off := 0) (cs := ndX noNd (.sl .nil []) (.sl .nil []) (.sl .nil [])) (l := ndL (addN n sep kid)) ?_
    refine LOps.gen (fun S' => S.le S' ∧ S'.box b4 = some (ndL n) ∧ S'.box b7 = some (hdL kid) ∧ S'.box b9 = some (hdL n.kids[idxN n key]) ∧ S'.box b14 = some (ndL (addN n sep kid))) ⟨hle.setBox s14 _, (box_set_ne _ _ n4_14).trans k4, (box_set_ne _ _ n7_14).trans k7, (box_set_ne _ _ n9_14).trans k9, (box_set _ _ _).trans (congrArg some (rfl))⟩ ?_
    clear hle k4 k7 k9 k14
    rintro Ss ⟨hle, k4, k7, k9, k14⟩
    repeat (first | refine LOps.valH (LVal.load hD rfl rfl k4 rfl rfl) ?_ | refine LOps.nil ?_ | refine andThen_normal ?_ | refine andThen_exit ?_ | refine andThen_ret ?_ | refine inBlock_normal ?_ | refine inBlock_ret ?_ | refine inBlock_here ?_ | refine inBlock_out rfl ?_ | refine LWp.seq ?_ | refine LWp.region ?_ | refine LWp.block ?_ | refine LWp.exit ?_ | refine LWp.ret ?_ | refine LWp.skip ?_ | refine LOps.val (LVal.call rfl rfl (by rw [hP]; exact Try.func17) rfl (by decide) (c18)) rfl rfl rfl ?_ | refine LOps.whenC (LVal.call rfl rfl (by rw [hP]; exact Try.func17) rfl (by decide) (c18)) ?_ | refine LOps.valA ?_ | refine LOps.outA ?_ | refine LOps.whenA ?_ | refine LOps.pickA ?_ | refine LOps.storeA ?_)
    refine LWp.cond rfl (fun hx => ?_) (fun hx => ?_)
    · have hx : (hasK n.keys sep || !coversN n sep) = true := hx
      have hs : shutN n sep = true := by
        unfold shutN
        rw [hl, hr]
        rw [Bool.or_eq_true] at hx
        rcases hx with h | h <;> rw [h] <;> simp
      have ea : addN n sep kid = n := by rw [addN, if_pos hs]
      rw [ea] at k14
      have ce := equal_F hP n n hn
      repeat (first | refine LOps.valH (LVal.load hD rfl rfl k4 rfl rfl) ?_ | refine LOps.valH (LVal.load hD rfl rfl k14 rfl rfl) ?_ | refine LOps.nil ?_ | refine andThen_normal ?_ | refine andThen_exit ?_ | refine andThen_ret ?_ | refine inBlock_normal ?_ | refine inBlock_ret ?_ | refine inBlock_here ?_ | refine inBlock_out rfl ?_ | refine LWp.seq ?_ | refine LWp.region ?_ | refine LWp.block ?_ | refine LWp.exit ?_ | refine LWp.ret ?_ | refine LWp.skip ?_ | refine LOps.val (LVal.call rfl rfl (by rw [hP]; exact Try.func22) rfl (by decide) (ce)) rfl rfl rfl ?_ | refine LOps.whenC (LVal.call rfl rfl (by rw [hP]; exact Try.func22) rfl (by decide) (ce)) ?_ | refine LOps.valA ?_ | refine LOps.outA ?_ | refine LOps.whenA ?_ | refine LOps.pickA ?_ | refine LOps.storeA ?_)
      refine ⟨_, LRes.one rfl, ?_⟩
      show TV.one (bv (decide (n = n))) = _
      rw [decide_eq_true rfl]
    have hx : (hasK n.keys sep || !coversN n sep) = false := hx
    rw [Bool.or_eq_false_iff] at hx
    have hs : shutN n sep = false := by
      unfold shutN
      rw [hl, hr, hx.1, hx.2]; rfl
    clear hx
    rw [add_is hs] at k14
    have hlen : (n.add (cntK n.keys sep) sep kid).keys.length = n.keys.length + 1 := insL_length _ (cntK_le _ _) _
    have hlen2 : ((n.add (cntK n.keys sep) sep kid).keys.map sL).length = n.keys.length + 1 := (List.length_map ..).trans hlen
    have okm : (n.add (cntK n.keys sep) sep kid).ok := ⟨by omega, hn.vals, by
      show (insL n.kids (cntK n.keys sep + 1) kid).length ≤ 100000
      have := cntK_le n.keys sep
      rw [insL_length _ (by omega)]; omega⟩
    have c22 := kid_F hP _ okm key
    rw [add_kid hs hck, hgd] at c22
    have c23 := right_F hP _ okm
    rw [add_right hs] at c23
    have habove := fun ab nx hks ha => above_is (ab := ab) (nx := nx) hs (k := key) hks ha
    generalize n.add (cntK n.keys sep) sep kid = m at *
    repeat (first | refine LOps.valH (LVal.load hD rfl rfl k14 rfl rfl) ?_ | refine LOps.nil ?_ | refine andThen_normal ?_ | refine andThen_exit ?_ | refine andThen_ret ?_ | refine inBlock_normal ?_ | refine inBlock_ret ?_ | refine inBlock_here ?_ | refine inBlock_out rfl ?_ | refine LWp.seq ?_ | refine LWp.region ?_ | refine LWp.block ?_ | refine LWp.exit ?_ | refine LWp.ret ?_ | refine LWp.skip ?_ | refine LOps.val (LVal.call rfl rfl (by rw [hP]; exact Try.func20) rfl (by decide) (c22)) rfl rfl rfl ?_ | refine LOps.whenC (LVal.call rfl rfl (by rw [hP]; exact Try.func20) rfl (by decide) (c22)) ?_ | refine LOps.valA ?_ | refine LOps.outA ?_ | refine LOps.whenA ?_ | refine LOps.pickA ?_ | refine LOps.storeA ?_)
    skip
    refine LOps.do (LDo.alloc hD rfl rfl rfl) rfl rfl rfl ?_
    rintro _ _ ⟨b15, hb15, rfl, rfl⟩
    have n4_15 := fresh_ne hb15 k4
    have m15_4 := n4_15.symm
    have n7_15 := fresh_ne hb15 k7
    have m15_7 := n7_15.symm
    have n9_15 := fresh_ne hb15 k9
    have m15_9 := n9_15.symm
    have n14_15 := fresh_ne hb15 k14
    have m15_14 := n14_15.symm
    have s15 := hle.none hb15
    refine LOps.gen (fun S' => S.le S' ∧ S'.box b4 = some (ndL n) ∧ S'.box b7 = some (hdL kid) ∧ S'.box b9 = some (hdL n.kids[idxN n key]) ∧ S'.box b14 = some (ndL m) ∧ S'.box b15 = some (hdL noHd)) ⟨hle.newBox hb15 _, (box_new_ne _ _ n4_15).trans k4, (box_new_ne _ _ n7_15).trans k7, (box_new_ne _ _ n9_15).trans k9, (box_new_ne _ _ n14_15).trans k14, box_new _ _ _⟩ ?_
    clear hle hb15 k4 k7 k9 k14
    rintro S15 ⟨hle, k4, k7, k9, k14, k15⟩
    repeat (first | refine LOps.nil ?_ | refine andThen_normal ?_ | refine andThen_exit ?_ | refine andThen_ret ?_ | refine inBlock_normal ?_ | refine inBlock_ret ?_ | refine inBlock_here ?_ | refine inBlock_out rfl ?_ | refine LWp.seq ?_ | refine LWp.region ?_ | refine LWp.block ?_ | refine LWp.exit ?_ | refine LWp.ret ?_ | refine LWp.skip ?_ | refine LOps.valA ?_ | refine LOps.outA ?_ | refine LOps.whenA ?_ | refine LOps.pickA ?_)
    refine LOps.storeA (b := b15) (off := 0) (cs := hdL noHd) (l := hdL (if ltS key sep = false ∧ idxN n key = cntK n.keys sep then kid else n.kids[idxN n key])) ?_
    refine LOps.gen (fun S' => S.le S' ∧ S'.box b4 = some (ndL n) ∧ S'.box b7 = some (hdL kid) ∧ S'.box b9 = some (hdL n.kids[idxN n key]) ∧ S'.box b14 = some (ndL m) ∧ S'.box b15 = some (hdL (if ltS key sep = false ∧ idxN n key = cntK n.keys sep then kid else n.kids[idxN n key]))) ⟨hle.setBox s15 _, (box_set_ne _ _ n4_15).trans k4, (box_set_ne _ _ n7_15).trans k7, (box_set_ne _ _ n9_15).trans k9, (box_set_ne _ _ n14_15).trans k14, (box_set _ _ _).trans (congrArg some (rfl))⟩ ?_
    clear hle k4 k7 k9 k14 k15
    rintro Ss ⟨hle, k4, k7, k9, k14, k15⟩
    refine LOps.slots [(1, .one (sv sep)), (2, .one (sv key)), (4, ptr b4), (7, ptr b7), (9, ptr b9), (14, ptr b14), (15, ptr b15), (113, .one (bv true))] ⟨rfl, rfl, rfl, rfl, rfl, rfl, rfl, rfl, trivial⟩ fun T10 => ?_
    repeat (first | refine LOps.nil ?_ | refine andThen_normal ?_ | refine andThen_exit ?_ | refine andThen_ret ?_ | refine inBlock_normal ?_ | refine inBlock_ret ?_ | refine inBlock_here ?_ | refine inBlock_out rfl ?_ | refine LWp.seq ?_ | refine LWp.region ?_ | refine LWp.block ?_ | refine LWp.exit ?_ | refine LWp.ret ?_ | refine LWp.skip ?_ | refine LOps.valA ?_ | refine LOps.outA ?_ | refine LOps.whenA ?_ | refine LOps.pickA ?_ | refine LOps.storeA ?_)
    refine LWp.loop (fun mm T S' => S' = Ss ∧ ∃ (T' : Nat → TV) (j : Nat) (ab : Bool) (nx : ByteArray), j ≤ n.keys.length ∧ mm = n.keys.length - j ∧ AboveTo n sep j ab nx ∧ T = over T' [(1, .one (sv sep)), (2, .one (sv key)), (4, ptr b4), (7, ptr b7), (9, ptr b9), (14, ptr b14), (15, ptr b15), (16, .one (bv true)), (17, .one (sv nx)), (18, .one (bv ab)), (19, .one (iv (j : Nat)))]) n.keys.length ?_ ?_
    · exact ⟨rfl, _, 0, false, noBytes, by omega, by omega, .inl ⟨rfl, fun i hi h => by omega⟩, holds.over ⟨rfl, rfl, rfl, rfl, rfl, rfl, rfl, rfl, rfl, rfl, rfl, trivial⟩⟩
    rintro mm T S' ⟨hS, T', j, ab, nx, hj, rfl, hab, rfl⟩
    replace hS := hS.symm
    subst hS
    repeat (first | refine LOps.nil ?_ | refine andThen_normal ?_ | refine andThen_exit ?_ | refine andThen_ret ?_ | refine inBlock_normal ?_ | refine inBlock_ret ?_ | refine inBlock_here ?_ | refine inBlock_out rfl ?_ | refine LWp.seq ?_ | refine LWp.region ?_ | refine LWp.block ?_ | refine LWp.exit ?_ | refine LWp.ret ?_ | refine LWp.skip ?_ | refine LOps.valA ?_ | refine LOps.outA ?_ | refine LOps.whenA ?_ | refine LOps.pickA ?_ | refine LOps.storeA ?_)
    refine LWp.cond rfl (fun h => ?_) (fun h => ?_)
    · have h : (decide ((j : Int) < ((n.keys.map sL).length : Int)) && !ab) = true := h
      rw [Bool.and_eq_true, decide_eq_true_iff, hml] at h
      have hlt : j < n.keys.length := by omega
      have hab2 : ∀ i (hi : i < n.keys.length), i < j → ltS sep n.keys[i] = false := by
        rcases hab with ⟨_, h3⟩ | ⟨h3, _⟩
        · exact h3
        · rw [h3] at h; cases h.2
      repeat (first | refine LOps.valH (LVal.gtrStr rfl rfl rfl) ?_ | refine LOps.nil ?_ | refine andThen_normal ?_ | refine andThen_exit ?_ | refine andThen_ret ?_ | refine inBlock_normal ?_ | refine inBlock_ret ?_ | refine inBlock_here ?_ | refine inBlock_out rfl ?_ | refine LWp.seq ?_ | refine LWp.region ?_ | refine LWp.block ?_ | refine LWp.exit ?_ | refine LWp.ret ?_ | refine LWp.skip ?_ | refine LOps.valA ?_ | refine LOps.outA ?_ | refine LOps.whenA ?_ | refine LOps.pickA ?_ | refine LOps.storeA ?_)
      refine LWp.cond rfl (fun h2 => ?_) (fun h2 => ?_)
      · have h2 : ltS sep n.keys[j] = true := h2
        repeat (first | refine LOps.nil ?_ | refine andThen_normal ?_ | refine andThen_exit ?_ | refine andThen_ret ?_ | refine inBlock_normal ?_ | refine inBlock_ret ?_ | refine inBlock_here ?_ | refine inBlock_out rfl ?_ | refine LWp.seq ?_ | refine LWp.region ?_ | refine LWp.block ?_ | refine LWp.exit ?_ | refine LWp.ret ?_ | refine LWp.skip ?_ | refine LOps.valA ?_ | refine LOps.outA ?_ | refine LOps.whenA ?_ | refine LOps.pickA ?_ | refine LOps.storeA ?_)
        exact ⟨n.keys.length - (j + 1), by omega, rfl, _, j + 1, true, n.keys[j], by omega, rfl, .inr ⟨rfl, j, hlt, rfl, h2, fun q hq => hab2 q (by omega) hq⟩, holds.over ⟨rfl, rfl, rfl, rfl, rfl, rfl, rfl, rfl, rfl, rfl, rfl, trivial⟩⟩
      · have h2 : ltS sep n.keys[j] = false := h2
        have hf : ab = false := by simpa using h.2
        subst hf
        repeat (first | refine LOps.nil ?_ | refine andThen_normal ?_ | refine andThen_exit ?_ | refine andThen_ret ?_ | refine inBlock_normal ?_ | refine inBlock_ret ?_ | refine inBlock_here ?_ | refine inBlock_out rfl ?_ | refine LWp.seq ?_ | refine LWp.region ?_ | refine LWp.block ?_ | refine LWp.exit ?_ | refine LWp.ret ?_ | refine LWp.skip ?_ | refine LOps.valA ?_ | refine LOps.outA ?_ | refine LOps.whenA ?_ | refine LOps.pickA ?_ | refine LOps.storeA ?_)
        refine ⟨n.keys.length - (j + 1), by omega, rfl, _, j + 1, false, nx, by omega, rfl, .inl ⟨rfl, fun i hi hij => ?_⟩, holds.over ⟨rfl, rfl, rfl, rfl, rfl, rfl, rfl, rfl, rfl, rfl, rfl, trivial⟩⟩
        rcases Nat.lt_or_ge i j with h3 | h3
        · exact hab2 i hi h3
        · obtain rfl : i = j := by omega
          exact h2
    have h : (decide ((j : Int) < ((n.keys.map sL).length : Int)) && !ab) = false := h
    rw [Bool.and_eq_false_iff, decide_eq_false_iff_not, hml] at h
    have hab3 : (ab = false ∧ ∀ i (hi : i < n.keys.length), ltS sep n.keys[i] = false) ∨ (ab = true ∧ ∃ (i : Nat) (hi : i < n.keys.length), nx = n.keys[i] ∧ ltS sep n.keys[i] = true ∧ ∀ q (hq : q < i), ltS sep (n.keys[q]'(by omega)) = false) := by
      rcases hab with ⟨h3, h4⟩ | h3
      · refine .inl ⟨h3, fun i hi => h4 i hi ?_⟩
        rcases h with h | h
        · omega
        · rw [h3] at h; cases h
      · exact .inr h3
    clear h hab
    repeat (first | refine LOps.valH (LVal.load hD rfl rfl k14 rfl rfl) ?_ | refine LOps.nil ?_ | refine andThen_normal ?_ | refine andThen_exit ?_ | refine andThen_ret ?_ | refine inBlock_normal ?_ | refine inBlock_ret ?_ | refine inBlock_here ?_ | refine inBlock_out rfl ?_ | refine LWp.seq ?_ | refine LWp.region ?_ | refine LWp.block ?_ | refine LWp.exit ?_ | refine LWp.ret ?_ | refine LWp.skip ?_ | refine LOps.val (LVal.call rfl rfl (by rw [hP]; exact Try.func16) rfl (by decide) (c23)) rfl rfl rfl ?_ | refine LOps.whenC (LVal.call rfl rfl (by rw [hP]; exact Try.func16) rfl (by decide) (c23)) ?_ | refine LOps.valA ?_ | refine LOps.outA ?_ | refine LOps.whenA ?_ | refine LOps.pickA ?_ | refine LOps.storeA ?_)
    refine LWp.cond rfl (fun hx => ?_) (fun hx => ?_)
    · exfalso
      have hx : ((false || false) || (((m.keys.map sL).length : Int) != ((n.keys.map sL).length : Int) + 1)) = true := hx
      rw [hlen2, hml] at hx
      simp at hx
    clear hx
    repeat (first | refine LOps.valH (LVal.geqStr rfl rfl rfl) ?_ | refine LOps.whenC (LVal.lssStr rfl rfl rfl) ?_ | refine LOps.nil ?_ | refine andThen_normal ?_ | refine andThen_exit ?_ | refine andThen_ret ?_ | refine inBlock_normal ?_ | refine inBlock_ret ?_ | refine inBlock_here ?_ | refine inBlock_out rfl ?_ | refine LWp.seq ?_ | refine LWp.region ?_ | refine LWp.block ?_ | refine LWp.exit ?_ | refine LWp.ret ?_ | refine LWp.skip ?_ | refine LOps.valA ?_ | refine LOps.outA ?_ | refine LOps.whenA ?_ | refine LOps.pickA ?_ | refine LOps.storeA ?_)
    refine LWp.cond rfl (fun hx => ?_) (fun hx => ?_)
    · have hx : (!ltS key sep && (!ab || ltS key nx)) = true := hx
      rw [Bool.and_eq_true] at hx
      have hks : ltS key sep = false := by simpa using hx.1
      rw [if_pos ⟨hks, (habove ab nx hks hab3).1 hx.2⟩] at k15
      repeat (first | refine LOps.valH (LVal.load hD rfl rfl k15 rfl rfl) ?_ | refine LOps.valH (LVal.load hD rfl rfl k7 rfl rfl) ?_ | refine LOps.nil ?_ | refine andThen_normal ?_ | refine andThen_exit ?_ | refine andThen_ret ?_ | refine inBlock_normal ?_ | refine inBlock_ret ?_ | refine inBlock_here ?_ | refine inBlock_out rfl ?_ | refine LWp.seq ?_ | refine LWp.region ?_ | refine LWp.block ?_ | refine LWp.exit ?_ | refine LWp.ret ?_ | refine LWp.skip ?_ | refine LOps.valA ?_ | refine LOps.outA ?_ | refine LOps.whenA ?_ | refine LOps.pickA ?_ | refine LOps.storeA ?_)
      refine ⟨_, LRes.one rfl, ?_⟩
      show TV.one (bv (eqHd kid kid)) = _
      rw [eqHd_iff.2 rfl]
    · have hx : (!ltS key sep && (!ab || ltS key nx)) = false := hx
      rw [if_neg (by
        rintro ⟨h1, h2⟩
        rw [h1, (habove ab nx h1 hab3).2 h2] at hx; cases hx)] at k15
      repeat (first | refine LOps.valH (LVal.load hD rfl rfl k15 rfl rfl) ?_ | refine LOps.valH (LVal.load hD rfl rfl k9 rfl rfl) ?_ | refine LOps.nil ?_ | refine andThen_normal ?_ | refine andThen_exit ?_ | refine andThen_ret ?_ | refine inBlock_normal ?_ | refine inBlock_ret ?_ | refine inBlock_here ?_ | refine inBlock_out rfl ?_ | refine LWp.seq ?_ | refine LWp.region ?_ | refine LWp.block ?_ | refine LWp.exit ?_ | refine LWp.ret ?_ | refine LWp.skip ?_ | refine LOps.valA ?_ | refine LOps.outA ?_ | refine LOps.whenA ?_ | refine LOps.pickA ?_ | refine LOps.storeA ?_)
      refine ⟨_, LRes.one rfl, ?_⟩
      show TV.one (bv (eqHd n.kids[idxN n key] n.kids[idxN n key])) = _
      rw [eqHd_iff.2 rfl]
end Go.Proofs.Ytjcpcgneghanfaa.LF

namespace Go.Proofs.Ytjcpcgneghanfaa
open Go.RowKit LF
theorem blnodeKids_walk (W : World) (v0 : Value) (l0 : List LV) (y0 : Typed LF.D 28 l0) (g0 : RepT (G0 Try.prog W) W (allCells W) (argTV ti28 l0) v0) (v1 : Value) (l1 : List LV) (y1 : Typed LF.D 9 l1) (g1 : RepT (G0 Try.prog W) W (allCells W) (argTV ti9 l1) v1) (v2 : Value) (l2 : List LV) (y2 : Typed LF.D 9 l2) (g2 : RepT (G0 Try.prog W) W (allCells W) (argTV ti9 l2) v2) (v3 : Value) (l3 : List LV) (y3 : Typed LF.D 26 l3) (g3 : RepT (G0 Try.prog W) W (allCells W) (argTV ti26 l3) v3) :
    Calls Try.prog 4 #[v0, v1, v2, v3] W fun e W' => e = .returned (.bool true) ∧ Below W.heap.size W W' := by
  obtain ⟨n, rfl, hz⟩ := typed_nd y0
  obtain ⟨s, rfl, hs⟩ := typed_key y1
  obtain ⟨k, rfl, hk⟩ := typed_key y2
  obtain ⟨h0, rfl⟩ := typed_hd y3
  exact law_calls (fun G S h => kids_L h n hz s k h0 S) (.cons (vs := [v1, v2, v3]) g0 (.cons (vs := [v2, v3]) g1 (.cons (vs := [v3]) g2 (.cons (vs := []) g3 .nil))))
end Go.Proofs.Ytjcpcgneghanfaa
