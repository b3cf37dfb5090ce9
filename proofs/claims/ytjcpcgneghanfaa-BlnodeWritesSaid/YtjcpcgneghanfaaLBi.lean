/- The B-link node's law: the walks of leaf, awake; the program's clone and Split, as values. -/
import Derived.Test.YtjcpcgneghanfaaLBh
import Derived.Test.YtjcpcgneghanfaaLS3
set_option linter.unusedVariables false
set_option linter.unusedSimpArgs false
namespace Go.Proofs.Ytjcpcgneghanfaa.LF
open Go.RowKit
set_option linter.unusedVariables false

def leafN : NdV := ⟨true, [⟨#[98]⟩, ⟨#[100]⟩], [⟨#[49]⟩, ⟨#[50]⟩], [], noBytes, false, noHd⟩
def awN : NdV := ⟨true, [⟨#[98]⟩, ⟨#[99]⟩, ⟨#[100]⟩], [⟨#[49]⟩, ⟨#[57]⟩, ⟨#[50]⟩], [], noBytes, false, noHd⟩
theorem leafN_ok : leafN.ok := ⟨by decide, by decide, by decide⟩
theorem awN_ok : awN.ok := ⟨by decide, by decide, by decide⟩
theorem aw_put : putN leafN ⟨#[99]⟩ ⟨#[57]⟩ = (awN, noBytes, false) := by decide +kernel
theorem aw_find : cntK awN.keys ⟨#[99]⟩ = 1 ∧ hasK awN.keys ⟨#[99]⟩ = true := by decide +kernel
theorem aw_right : rightN awN = true := by decide +kernel
theorem leaf_F {G : Ctx} (hP : G.P = Try.prog) : LFun G 33 [] (.agg (ndL leafN)) := LFun.of fun S => by
  have hD : TabOK G.P D := by rw [hP]; exact hD0
  refine LCalls.enter (fn := Try.f33) (by rw [hP]; exact Try.func33) rfl rfl ?_
  repeat (first | refine LOps.nil ?_ | refine andThen_normal ?_ | refine andThen_exit ?_ | refine andThen_ret ?_ | refine inBlock_normal ?_ | refine inBlock_ret ?_ | refine inBlock_here ?_ | refine inBlock_out rfl ?_ | refine LWp.seq ?_ | refine LWp.region ?_ | refine LWp.block ?_ | refine LWp.exit ?_ | refine LWp.ret ?_ | refine LWp.skip ?_ | refine LOps.valA ?_ | refine LOps.outA ?_ | refine LOps.whenA ?_ | refine LOps.pickA ?_ | refine LOps.storeA ?_)
  have hle := LS.le.refl S
  refine LOps.do (LDo.alloc hD rfl rfl rfl) rfl rfl rfl ?_
  rintro _ _ ⟨b0, hb0, rfl, rfl⟩
  have s0 := hle.none hb0
  refine LOps.gen (fun S' => S.le S' ∧ S'.box b0 = some (ndX noNd (.sl .nil []) (.sl .nil []) (.sl .nil []))) ⟨hle.newBox hb0 _, box_new _ _ _⟩ ?_
  clear hle hb0 
  rintro S0 ⟨hle, k0⟩
  repeat (first | refine LOps.val (r := .one (.sl .sh (leafN.keys.map sL))) (LVal.to (LVal.buildSlice hD rfl rfl rfl rfl rfl rfl rfl rfl rfl rfl) rfl) rfl rfl rfl ?_ | refine LOps.val (r := .one (.sl .sh (leafN.vals.map sL))) (LVal.to (LVal.buildSlice hD rfl rfl rfl rfl rfl rfl rfl rfl rfl rfl) rfl) rfl rfl rfl ?_ | refine LOps.val (r := .agg (ndL leafN)) (LVal.shTo (LVal.build hD rfl rfl rfl rfl rfl rfl rfl) rfl) rfl rfl rfl ?_ | refine LOps.nil ?_ | refine andThen_normal ?_ | refine andThen_exit ?_ | refine andThen_ret ?_ | refine inBlock_normal ?_ | refine inBlock_ret ?_ | refine inBlock_here ?_ | refine inBlock_out rfl ?_ | refine LWp.seq ?_ | refine LWp.region ?_ | refine LWp.block ?_ | refine LWp.exit ?_ | refine LWp.ret ?_ | refine LWp.skip ?_ | refine LOps.valA ?_ | refine LOps.outA ?_ | refine LOps.whenA ?_ | refine LOps.pickA ?_)
  refine LOps.storeA (b := b0) (off := 0) (cs := ndX noNd (.sl .nil []) (.sl .nil []) (.sl .nil [])) (l := ndL leafN) ?_
  refine LOps.gen (fun S' => S.le S' ∧ S'.box b0 = some (ndL leafN)) ⟨hle.setBox s0 _, (box_set _ _ _).trans (congrArg some (rfl))⟩ ?_
  clear hle k0
  rintro Ss ⟨hle, k0⟩
  repeat (first | refine LOps.nil ?_ | refine andThen_normal ?_ | refine andThen_exit ?_ | refine andThen_ret ?_ | refine inBlock_normal ?_ | refine inBlock_ret ?_ | refine inBlock_here ?_ | refine inBlock_out rfl ?_ | refine LWp.seq ?_ | refine LWp.region ?_ | refine LWp.block ?_ | refine LWp.exit ?_ | refine LWp.ret ?_ | refine LWp.skip ?_ | refine LOps.valA ?_ | refine LOps.outA ?_ | refine LOps.whenA ?_ | refine LOps.pickA ?_ | refine LOps.storeA ?_)
  exact ⟨_, ndRes (x := leafN) hP rfl rfl k0, rfl, hle⟩

set_option maxHeartbeats 4000000 in
theorem awake_F {G : Ctx} (hP : G.P = Try.prog) : LFun G 10 [] (.one (bv true)) := LFun.of fun S => by
  have hD : TabOK G.P D := by rw [hP]; exact hD0
  have c1 := leaf_F hP
  have c2 := put_F hP leafN leafN_ok ⟨#[99]⟩ ⟨#[57]⟩
  rw [aw_put] at c2
  have c3 := find_F hP awN awN_ok ⟨#[99]⟩
  rw [aw_find.1, aw_find.2] at c3
  have c4 := right_F hP awN awN_ok
  rw [aw_right] at c4
  refine LCalls.enter (fn := Try.f10) (by rw [hP]; exact Try.func10) rfl rfl ?_
  repeat (first | refine LOps.nil ?_ | refine andThen_normal ?_ | refine andThen_exit ?_ | refine andThen_ret ?_ | refine inBlock_normal ?_ | refine inBlock_ret ?_ | refine inBlock_here ?_ | refine inBlock_out rfl ?_ | refine LWp.seq ?_ | refine LWp.region ?_ | refine LWp.block ?_ | refine LWp.exit ?_ | refine LWp.ret ?_ | refine LWp.skip ?_ | refine LOps.val (LVal.call rfl rfl (by rw [hP]; exact Try.func33) rfl (by decide) (c1)) rfl rfl rfl ?_ | refine LOps.val (LVal.call rfl rfl (by rw [hP]; exact Try.func26) rfl (by decide) (c2)) rfl rfl rfl ?_ | refine LOps.whenC (LVal.call rfl rfl (by rw [hP]; exact Try.func33) rfl (by decide) (c1)) ?_ | refine LOps.whenC (LVal.call rfl rfl (by rw [hP]; exact Try.func26) rfl (by decide) (c2)) ?_ | refine LOps.valA ?_ | refine LOps.outA ?_ | refine LOps.whenA ?_ | refine LOps.pickA ?_ | refine LOps.storeA ?_)
  have hle := LS.le.refl S
  refine LOps.do (LDo.alloc hD rfl rfl rfl) rfl rfl rfl ?_
  rintro _ _ ⟨b1, hb1, rfl, rfl⟩
  have s1 := hle.none hb1
  refine LOps.gen (fun S' => S.le S' ∧ S'.box b1 = some (ndX noNd (.sl .nil []) (.sl .nil []) (.sl .nil []))) ⟨hle.newBox hb1 _, box_new _ _ _⟩ ?_
  clear hle hb1 
  rintro S1 ⟨hle, k1⟩
  repeat (first | refine LOps.nil ?_ | refine andThen_normal ?_ | refine andThen_exit ?_ | refine andThen_ret ?_ | refine inBlock_normal ?_ | refine inBlock_ret ?_ | refine inBlock_here ?_ | refine inBlock_out rfl ?_ | refine LWp.seq ?_ | refine LWp.region ?_ | refine LWp.block ?_ | refine LWp.exit ?_ | refine LWp.ret ?_ | refine LWp.skip ?_ | refine LOps.valA ?_ | refine LOps.outA ?_ | refine LOps.whenA ?_ | refine LOps.pickA ?_)
  refine LOps.storeA (b := b1) (off := 0) (cs := ndX noNd (.sl .nil []) (.sl .nil []) (.sl .nil [])) (l := ndL awN) ?_
  refine LOps.gen (fun S' => S.le S' ∧ S'.box b1 = some (ndL awN)) ⟨hle.setBox s1 _, (box_set _ _ _).trans (congrArg some (rfl))⟩ ?_
  clear hle k1
  rintro Ss ⟨hle, k1⟩
  repeat (first | refine LOps.valH (LVal.load hD rfl rfl k1 rfl rfl) ?_ | refine LOps.nil ?_ | refine andThen_normal ?_ | refine andThen_exit ?_ | refine andThen_ret ?_ | refine inBlock_normal ?_ | refine inBlock_ret ?_ | refine inBlock_here ?_ | refine inBlock_out rfl ?_ | refine LWp.seq ?_ | refine LWp.region ?_ | refine LWp.block ?_ | refine LWp.exit ?_ | refine LWp.ret ?_ | refine LWp.skip ?_ | refine LOps.val (LVal.call rfl rfl (by rw [hP]; exact Try.func14) rfl (by decide) (c3)) rfl rfl rfl ?_ | refine LOps.val (LVal.call rfl rfl (by rw [hP]; exact Try.func16) rfl (by decide) (c4)) rfl rfl rfl ?_ | refine LOps.whenC (LVal.call rfl rfl (by rw [hP]; exact Try.func14) rfl (by decide) (c3)) ?_ | refine LOps.whenC (LVal.call rfl rfl (by rw [hP]; exact Try.func16) rfl (by decide) (c4)) ?_ | refine LOps.valA ?_ | refine LOps.outA ?_ | refine LOps.whenA ?_ | refine LOps.pickA ?_ | refine LOps.storeA ?_)
  exact ⟨_, LRes.one rfl, rfl, hle⟩

/-- A node's copy, as a value. -/
theorem clone_F {G : Ctx} (hP : G.P = Try.prog) (n : NdV) (hn : n.ok) : LFun G 39 [.agg (ndL n)] (.agg (ndL n)) := LFun.of fun S =>
  (clone_L hP n hn S).frz fun r S' ⟨X, Y, Z, e, hle, R⟩ => by
    obtain ⟨S2, _, f1, l2⟩ := R.frz hle []
    exact ⟨_, S2, e ▸ f1, rfl, l2⟩

def NdV.lowL (n : NdV) (m : Nat) (h : HdV) : NdV := ⟨n.leaf, n.keys.take m, n.vals.take m, n.kids, n.keys.getD m noBytes, true, h⟩
def NdV.lowI (n : NdV) (m : Nat) (h : HdV) : NdV := ⟨n.leaf, n.keys.take m, n.vals, n.kids.take (m + 1), n.keys.getD m noBytes, true, h⟩
def NdV.upL (n : NdV) (m : Nat) : NdV := { n with keys := n.keys.drop m, vals := n.vals.drop m }
def NdV.upI (n : NdV) (m : Nat) : NdV := { n with keys := n.keys.drop (m + 1), kids := n.kids.drop (m + 1) }
/-- Is a node too short for halves, or wrong? -/
def noSplit (n : NdV) : Bool := !rightN n || decide (n.keys.length < if n.leaf then 2 else 3)
def splitN (n : NdV) (h : HdV) : NdV × NdV × ByteArray :=
  if noSplit n then (n, noNd, noBytes)
  else if n.leaf then (n.lowL (n.keys.length / 2) h, n.upL (n.keys.length / 2), n.keys.getD (n.keys.length / 2) noBytes)
  else (n.lowI (n.keys.length / 2) h, n.upI (n.keys.length / 2), n.keys.getD (n.keys.length / 2) noBytes)
theorem splitRes {G : Ctx} (hP : G.P = Try.prog) {n : Nat} {fn : Func} {T : Nat → TV} {S : LS} {a c t : Tmp} {b d : Nat} {x y : NdV} {p : TV} (hf : fn.results = #[.cell a 28, .cell c 28, .tmp t]) (ha : T a = ptr b) (hb : S.box b = some (ndL x)) (hc : T c = ptr d) (hd : S.box d = some (ndL y)) (hp : T t = p) : LRes G n fn T S (.tup [.agg (ndL x), .agg (ndL y), p]) := by
  subst hp
  exact LRes.many (vs := [.cell a 28, .cell c 28, .tmp t]) hf rfl (.cons (.cell ha hb (hP ▸ tok28) rfl) (.cons (.cell hc hd (hP ▸ tok28) rfl) (.cons (.tmp _) .nil)))

theorem sl_take {α : Type} (f : α → List LV) (l : List α) (m : Nat) : ((l.map f).drop 0).take m = (l.take m).map f := by rw [List.drop_zero, List.map_take]
theorem sl_drop {α : Type} (f : α → List LV) (l : List α) (m : Nat) : ((l.map f).drop m).take ((l.map f).length - m) = (l.drop m).map f := by rw [List.take_of_length_le (by simp), List.map_drop]
end Go.Proofs.Ytjcpcgneghanfaa.LF
