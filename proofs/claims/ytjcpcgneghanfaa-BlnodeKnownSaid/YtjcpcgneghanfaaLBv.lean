/- The walk of the law 'BlnodeKnown'. -/
import Derived.Test.YtjcpcgneghanfaaLBk
set_option linter.unusedVariables false
set_option linter.unusedSimpArgs false
namespace Go.Proofs.Ytjcpcgneghanfaa.LF
open Go.RowKit
set_option linter.unusedVariables false

def innerN : NdV := ⟨false, [⟨#[109]⟩, ⟨#[115]⟩], [], [⟨1, 1⟩, ⟨2, 1⟩, ⟨3, 1⟩], noBytes, false, noHd⟩
def knA : NdV := ⟨true, [⟨#[98]⟩, ⟨#[100]⟩], [⟨#[49]⟩, ⟨#[57]⟩], [], noBytes, false, noHd⟩
def knC : NdV := ⟨false, [⟨#[109]⟩, ⟨#[112]⟩, ⟨#[115]⟩], [], [⟨1, 1⟩, ⟨2, 1⟩, ⟨7, 1⟩, ⟨3, 1⟩], noBytes, false, noHd⟩
def knX : NdV := ⟨true, [⟨#[98]⟩], [⟨#[49]⟩], [], ⟨#[100]⟩, true, ⟨9, 1⟩⟩
def knY : NdV := ⟨true, [⟨#[100]⟩], [⟨#[50]⟩], [], noBytes, false, noHd⟩
theorem innerN_ok : innerN.ok := ⟨by decide, by decide, by decide⟩
theorem kn1 : cntK leafN.keys ⟨#[99]⟩ = 1 ∧ hasK leafN.keys ⟨#[99]⟩ = false := by decide +kernel
theorem kn2 : cntK leafN.keys ⟨#[100]⟩ = 1 ∧ hasK leafN.keys ⟨#[100]⟩ = true := by decide +kernel
theorem kn3 : putN leafN ⟨#[100]⟩ ⟨#[57]⟩ = (knA, ⟨#[50]⟩, true) := by decide +kernel
theorem kn4 : delN leafN ⟨#[120]⟩ = (leafN, noBytes, false) := by decide +kernel
theorem kn5 : kidN innerN ⟨#[97]⟩ = (⟨1, 1⟩, true) := by decide +kernel
theorem kn6 : kidN innerN ⟨#[109]⟩ = (⟨2, 1⟩, true) := by decide +kernel
theorem kn7 : kidN innerN ⟨#[122]⟩ = (⟨3, 1⟩, true) := by decide +kernel
theorem kn8 : kidN leafN ⟨#[97]⟩ = (noHd, false) := by decide +kernel
theorem kn9 : addN innerN ⟨#[112]⟩ ⟨7, 1⟩ = knC := by decide +kernel
theorem kn10 : splitN leafN ⟨9, 1⟩ = (knX, knY, ⟨#[100]⟩) := by decide +kernel
theorem inner_F {G : Ctx} (hP : G.P = Try.prog) : LFun G 34 [] (.agg (ndL innerN)) := LFun.of fun S => by
  have hD : TabOK G.P D := by rw [hP]; exact hD0
  refine LCalls.enter (fn := Try.f34) (by rw [hP]; exact Try.func34) rfl rfl ?_
  repeat (first | refine LOps.nil ?_ | refine andThen_normal ?_ | refine andThen_exit ?_ | refine andThen_ret ?_ | refine inBlock_normal ?_ | refine inBlock_ret ?_ | refine inBlock_here ?_ | refine inBlock_out rfl ?_ | refine LWp.seq ?_ | refine LWp.region ?_ | refine LWp.block ?_ | refine LWp.exit ?_ | refine LWp.ret ?_ | refine LWp.skip ?_ | refine LOps.valA ?_ | refine LOps.outA ?_ | refine LOps.whenA ?_ | refine LOps.pickA ?_ | refine LOps.storeA ?_)
  have hle := LS.le.refl S
  refine LOps.do (LDo.alloc hD rfl rfl rfl) rfl rfl rfl ?_
  rintro _ _ ⟨b0, hb0, rfl, rfl⟩
  have s0 := hle.none hb0
  refine LOps.gen (fun S' => S.le S' ∧ S'.box b0 = some (ndX noNd (.sl .nil []) (.sl .nil []) (.sl .nil []))) ⟨hle.newBox hb0 _, box_new _ _ _⟩ ?_
  clear hle hb0 
  rintro S0 ⟨hle, k0⟩
  repeat (first | refine LOps.val (r := .one (.sl .sh (innerN.keys.map sL))) (LVal.to (LVal.buildSlice hD rfl rfl rfl rfl rfl rfl rfl rfl rfl rfl) rfl) rfl rfl rfl ?_ | refine LOps.val (r := .agg (hdL ⟨1, 1⟩)) (LVal.to (LVal.build hD rfl rfl rfl rfl rfl rfl rfl) rfl) rfl rfl rfl ?_ | refine LOps.val (r := .agg (hdL ⟨2, 1⟩)) (LVal.to (LVal.build hD rfl rfl rfl rfl rfl rfl rfl) rfl) rfl rfl rfl ?_ | refine LOps.val (r := .agg (hdL ⟨3, 1⟩)) (LVal.to (LVal.build hD rfl rfl rfl rfl rfl rfl rfl) rfl) rfl rfl rfl ?_ | refine LOps.val (r := .one (.sl .sh (innerN.kids.map hdL))) (LVal.to (LVal.buildSlice hD rfl rfl rfl rfl rfl rfl rfl rfl rfl rfl) rfl) rfl rfl rfl ?_ | refine LOps.val (r := .agg (ndL innerN)) (LVal.shTo (LVal.build hD rfl rfl rfl rfl rfl rfl rfl) rfl) rfl rfl rfl ?_ | refine LOps.nil ?_ | refine andThen_normal ?_ | refine andThen_exit ?_ | refine andThen_ret ?_ | refine inBlock_normal ?_ | refine inBlock_ret ?_ | refine inBlock_here ?_ | refine inBlock_out rfl ?_ | refine LWp.seq ?_ | refine LWp.region ?_ | refine LWp.block ?_ | refine LWp.exit ?_ | refine LWp.ret ?_ | refine LWp.skip ?_ | refine LOps.valA ?_ | refine LOps.outA ?_ | refine LOps.whenA ?_ | refine LOps.pickA ?_)
  refine LOps.storeA (b := b0) (off := 0) (cs := ndX noNd (.sl .nil []) (.sl .nil []) (.sl .nil [])) (l := ndL innerN) ?_
  refine LOps.gen (fun S' => S.le S' ∧ S'.box b0 = some (ndL innerN)) ⟨hle.setBox s0 _, (box_set _ _ _).trans (congrArg some (rfl))⟩ ?_
  clear hle k0
  rintro Ss ⟨hle, k0⟩
  repeat (first | refine LOps.nil ?_ | refine andThen_normal ?_ | refine andThen_exit ?_ | refine andThen_ret ?_ | refine inBlock_normal ?_ | refine inBlock_ret ?_ | refine inBlock_here ?_ | refine inBlock_out rfl ?_ | refine LWp.seq ?_ | refine LWp.region ?_ | refine LWp.block ?_ | refine LWp.exit ?_ | refine LWp.ret ?_ | refine LWp.skip ?_ | refine LOps.valA ?_ | refine LOps.outA ?_ | refine LOps.whenA ?_ | refine LOps.pickA ?_ | refine LOps.storeA ?_)
  exact ⟨_, ndRes (x := innerN) hP rfl rfl k0, rfl, hle⟩

set_option maxHeartbeats 32000000 in
set_option maxRecDepth 20000 in
theorem known_L {G : Ctx} (hP : G.P = Try.prog) (S : LS) : LCalls G 8 [] (fun r _ => r = .one (bv true)) S := by
  have hD : TabOK G.P D := by rw [hP]; exact hD0
  have ca := awake_F hP
  have cl := leaf_F hP
  have ci := inner_F hP
  have c1 := find_F hP leafN leafN_ok ⟨#[99]⟩
  rw [kn1.1, kn1.2] at c1
  have c2 := find_F hP leafN leafN_ok ⟨#[100]⟩
  rw [kn2.1, kn2.2] at c2
  have c3 := put_F hP leafN leafN_ok ⟨#[100]⟩ ⟨#[57]⟩
  rw [kn3] at c3
  have c4 := delete_F hP leafN leafN_ok ⟨#[120]⟩
  rw [kn4] at c4
  have c5 := kid_F hP innerN innerN_ok ⟨#[97]⟩
  rw [kn5] at c5
  have c6 := kid_F hP innerN innerN_ok ⟨#[109]⟩
  rw [kn6] at c6
  have c7 := kid_F hP innerN innerN_ok ⟨#[122]⟩
  rw [kn7] at c7
  have c8 := kid_F hP leafN leafN_ok ⟨#[97]⟩
  rw [kn8] at c8
  have c9 := add_F hP innerN innerN_ok ⟨#[112]⟩ ⟨7, 1⟩
  rw [kn9] at c9
  have c10 := split_F hP leafN leafN_ok ⟨9, 1⟩
  rw [kn10] at c10
  have c11 := equal_F hP leafN leafN leafN_ok
  rw [decide_eq_true rfl] at c11
  have c12 := same_F hP knC.keys knC.keys (by decide)
  rw [decide_eq_true rfl] at c12
  have c13 := same_F hP knY.keys knY.keys (by decide)
  rw [decide_eq_true rfl] at c13
  refine LCalls.enter (fn := Try.f8) (by rw [hP]; exact Try.func8) rfl rfl ?_
  repeat (first | refine LOps.nil ?_ | refine andThen_normal ?_ | refine andThen_exit ?_ | refine andThen_ret ?_ | refine inBlock_normal ?_ | refine inBlock_ret ?_ | refine inBlock_here ?_ | refine inBlock_out rfl ?_ | refine LWp.seq ?_ | refine LWp.region ?_ | refine LWp.block ?_ | refine LWp.exit ?_ | refine LWp.ret ?_ | refine LWp.skip ?_ | refine LOps.val (LVal.call rfl rfl (by rw [hP]; exact Try.func33) rfl (by decide) (cl)) rfl rfl rfl ?_ | refine LOps.val (LVal.call rfl rfl (by rw [hP]; exact Try.func14) rfl (by decide) (c1)) rfl rfl rfl ?_ | refine LOps.val (LVal.call rfl rfl (by rw [hP]; exact Try.func14) rfl (by decide) (c2)) rfl rfl rfl ?_ | refine LOps.val (LVal.call rfl rfl (by rw [hP]; exact Try.func26) rfl (by decide) (c3)) rfl rfl rfl ?_ | refine LOps.whenC (LVal.call rfl rfl (by rw [hP]; exact Try.func33) rfl (by decide) (cl)) ?_ | refine LOps.whenC (LVal.call rfl rfl (by rw [hP]; exact Try.func14) rfl (by decide) (c1)) ?_ | refine LOps.whenC (LVal.call rfl rfl (by rw [hP]; exact Try.func14) rfl (by decide) (c2)) ?_ | refine LOps.whenC (LVal.call rfl rfl (by rw [hP]; exact Try.func26) rfl (by decide) (c3)) ?_ | refine LOps.valA ?_ | refine LOps.outA ?_ | refine LOps.whenA ?_ | refine LOps.pickA ?_ | refine LOps.storeA ?_)
  have hle := LS.le.refl S
  refine LOps.do (LDo.alloc hD rfl rfl rfl) rfl rfl rfl ?_
  rintro _ _ ⟨b5, hb5, rfl, rfl⟩
  have s5 := hle.none hb5
  refine LOps.gen (fun S' => S.le S' ∧ S'.box b5 = some (ndX noNd (.sl .nil []) (.sl .nil []) (.sl .nil []))) ⟨hle.newBox hb5 _, box_new _ _ _⟩ ?_
  clear hle hb5 
  rintro S5 ⟨hle, k5⟩
  repeat (first | refine LOps.nil ?_ | refine andThen_normal ?_ | refine andThen_exit ?_ | refine andThen_ret ?_ | refine inBlock_normal ?_ | refine inBlock_ret ?_ | refine inBlock_here ?_ | refine inBlock_out rfl ?_ | refine LWp.seq ?_ | refine LWp.region ?_ | refine LWp.block ?_ | refine LWp.exit ?_ | refine LWp.ret ?_ | refine LWp.skip ?_ | refine LOps.valA ?_ | refine LOps.outA ?_ | refine LOps.whenA ?_ | refine LOps.pickA ?_)
  refine LOps.storeA (b := b5) (off := 0) (cs := ndX noNd (.sl .nil []) (.sl .nil []) (.sl .nil [])) (l := ndL knA) ?_
  refine LOps.gen (fun S' => S.le S' ∧ S'.box b5 = some (ndL knA)) ⟨hle.setBox s5 _, (box_set _ _ _).trans (congrArg some (rfl))⟩ ?_
  clear hle k5
  rintro Ss ⟨hle, k5⟩
  repeat (first | refine LOps.nil ?_ | refine andThen_normal ?_ | refine andThen_exit ?_ | refine andThen_ret ?_ | refine inBlock_normal ?_ | refine inBlock_ret ?_ | refine inBlock_here ?_ | refine inBlock_out rfl ?_ | refine LWp.seq ?_ | refine LWp.region ?_ | refine LWp.block ?_ | refine LWp.exit ?_ | refine LWp.ret ?_ | refine LWp.skip ?_ | refine LOps.val (LVal.call rfl rfl (by rw [hP]; exact Try.func33) rfl (by decide) (cl)) rfl rfl rfl ?_ | refine LOps.val (LVal.call rfl rfl (by rw [hP]; exact Try.func27) rfl (by decide) (c4)) rfl rfl rfl ?_ | refine LOps.whenC (LVal.call rfl rfl (by rw [hP]; exact Try.func33) rfl (by decide) (cl)) ?_ | refine LOps.whenC (LVal.call rfl rfl (by rw [hP]; exact Try.func27) rfl (by decide) (c4)) ?_ | refine LOps.valA ?_ | refine LOps.outA ?_ | refine LOps.whenA ?_ | refine LOps.pickA ?_ | refine LOps.storeA ?_)
  skip
  refine LOps.do (LDo.alloc hD rfl rfl rfl) rfl rfl rfl ?_
  rintro _ _ ⟨b8, hb8, rfl, rfl⟩
  have n5_8 := fresh_ne hb8 k5
  have m8_5 := n5_8.symm
  have s8 := hle.none hb8
  refine LOps.gen (fun S' => S.le S' ∧ S'.box b5 = some (ndL knA) ∧ S'.box b8 = some (ndX noNd (.sl .nil []) (.sl .nil []) (.sl .nil []))) ⟨hle.newBox hb8 _, (box_new_ne _ _ n5_8).trans k5, box_new _ _ _⟩ ?_
  clear hle hb8 k5
  rintro S8 ⟨hle, k5, k8⟩
  repeat (first | refine LOps.nil ?_ | refine andThen_normal ?_ | refine andThen_exit ?_ | refine andThen_ret ?_ | refine inBlock_normal ?_ | refine inBlock_ret ?_ | refine inBlock_here ?_ | refine inBlock_out rfl ?_ | refine LWp.seq ?_ | refine LWp.region ?_ | refine LWp.block ?_ | refine LWp.exit ?_ | refine LWp.ret ?_ | refine LWp.skip ?_ | refine LOps.valA ?_ | refine LOps.outA ?_ | refine LOps.whenA ?_ | refine LOps.pickA ?_)
  refine LOps.storeA (b := b8) (off := 0) (cs := ndX noNd (.sl .nil []) (.sl .nil []) (.sl .nil [])) (l := ndL leafN) ?_
  refine LOps.gen (fun S' => S.le S' ∧ S'.box b5 = some (ndL knA) ∧ S'.box b8 = some (ndL leafN)) ⟨hle.setBox s8 _, (box_set_ne _ _ n5_8).trans k5, (box_set _ _ _).trans (congrArg some (rfl))⟩ ?_
  clear hle k5 k8
  rintro Ss ⟨hle, k5, k8⟩
  repeat (first | refine LOps.nil ?_ | refine andThen_normal ?_ | refine andThen_exit ?_ | refine andThen_ret ?_ | refine inBlock_normal ?_ | refine inBlock_ret ?_ | refine inBlock_here ?_ | refine inBlock_out rfl ?_ | refine LWp.seq ?_ | refine LWp.region ?_ | refine LWp.block ?_ | refine LWp.exit ?_ | refine LWp.ret ?_ | refine LWp.skip ?_ | refine LOps.val (LVal.call rfl rfl (by rw [hP]; exact Try.func34) rfl (by decide) (ci)) rfl rfl rfl ?_ | refine LOps.val (LVal.call rfl rfl (by rw [hP]; exact Try.func20) rfl (by decide) (c5)) rfl rfl rfl ?_ | refine LOps.whenC (LVal.call rfl rfl (by rw [hP]; exact Try.func34) rfl (by decide) (ci)) ?_ | refine LOps.whenC (LVal.call rfl rfl (by rw [hP]; exact Try.func20) rfl (by decide) (c5)) ?_ | refine LOps.valA ?_ | refine LOps.outA ?_ | refine LOps.whenA ?_ | refine LOps.pickA ?_ | refine LOps.storeA ?_)
  skip
  refine LOps.do (LDo.alloc hD rfl rfl rfl) rfl rfl rfl ?_
  rintro _ _ ⟨b11, hb11, rfl, rfl⟩
  have n5_11 := fresh_ne hb11 k5
  have m11_5 := n5_11.symm
  have n8_11 := fresh_ne hb11 k8
  have m11_8 := n8_11.symm
  have s11 := hle.none hb11
  refine LOps.gen (fun S' => S.le S' ∧ S'.box b5 = some (ndL knA) ∧ S'.box b8 = some (ndL leafN) ∧ S'.box b11 = some (hdL noHd)) ⟨hle.newBox hb11 _, (box_new_ne _ _ n5_11).trans k5, (box_new_ne _ _ n8_11).trans k8, box_new _ _ _⟩ ?_
  clear hle hb11 k5 k8
  rintro S11 ⟨hle, k5, k8, k11⟩
  repeat (first | refine LOps.nil ?_ | refine andThen_normal ?_ | refine andThen_exit ?_ | refine andThen_ret ?_ | refine inBlock_normal ?_ | refine inBlock_ret ?_ | refine inBlock_here ?_ | refine inBlock_out rfl ?_ | refine LWp.seq ?_ | refine LWp.region ?_ | refine LWp.block ?_ | refine LWp.exit ?_ | refine LWp.ret ?_ | refine LWp.skip ?_ | refine LOps.valA ?_ | refine LOps.outA ?_ | refine LOps.whenA ?_ | refine LOps.pickA ?_)
  refine LOps.storeA (b := b11) (off := 0) (cs := hdL noHd) (l := hdL ⟨1, 1⟩) ?_
  refine LOps.gen (fun S' => S.le S' ∧ S'.box b5 = some (ndL knA) ∧ S'.box b8 = some (ndL leafN) ∧ S'.box b11 = some (hdL ⟨1, 1⟩)) ⟨hle.setBox s11 _, (box_set_ne _ _ n5_11).trans k5, (box_set_ne _ _ n8_11).trans k8, (box_set _ _ _).trans (congrArg some (rfl))⟩ ?_
  clear hle k5 k8 k11
  rintro Ss ⟨hle, k5, k8, k11⟩
  repeat (first | refine LOps.nil ?_ | refine andThen_normal ?_ | refine andThen_exit ?_ | refine andThen_ret ?_ | refine inBlock_normal ?_ | refine inBlock_ret ?_ | refine inBlock_here ?_ | refine inBlock_out rfl ?_ | refine LWp.seq ?_ | refine LWp.region ?_ | refine LWp.block ?_ | refine LWp.exit ?_ | refine LWp.ret ?_ | refine LWp.skip ?_ | refine LOps.val (LVal.call rfl rfl (by rw [hP]; exact Try.func34) rfl (by decide) (ci)) rfl rfl rfl ?_ | refine LOps.val (LVal.call rfl rfl (by rw [hP]; exact Try.func20) rfl (by decide) (c6)) rfl rfl rfl ?_ | refine LOps.whenC (LVal.call rfl rfl (by rw [hP]; exact Try.func34) rfl (by decide) (ci)) ?_ | refine LOps.whenC (LVal.call rfl rfl (by rw [hP]; exact Try.func20) rfl (by decide) (c6)) ?_ | refine LOps.valA ?_ | refine LOps.outA ?_ | refine LOps.whenA ?_ | refine LOps.pickA ?_ | refine LOps.storeA ?_)
  skip
  refine LOps.do (LDo.alloc hD rfl rfl rfl) rfl rfl rfl ?_
  rintro _ _ ⟨b13, hb13, rfl, rfl⟩
  have n5_13 := fresh_ne hb13 k5
  have m13_5 := n5_13.symm
  have n8_13 := fresh_ne hb13 k8
  have m13_8 := n8_13.symm
  have n11_13 := fresh_ne hb13 k11
  have m13_11 := n11_13.symm
  have s13 := hle.none hb13
  refine LOps.gen (fun S' => S.le S' ∧ S'.box b5 = some (ndL knA) ∧ S'.box b8 = some (ndL leafN) ∧ S'.box b11 = some (hdL ⟨1, 1⟩) ∧ S'.box b13 = some (hdL noHd)) ⟨hle.newBox hb13 _, (box_new_ne _ _ n5_13).trans k5, (box_new_ne _ _ n8_13).trans k8, (box_new_ne _ _ n11_13).trans k11, box_new _ _ _⟩ ?_
  clear hle hb13 k5 k8 k11
  rintro S13 ⟨hle, k5, k8, k11, k13⟩
  repeat (first | refine LOps.nil ?_ | refine andThen_normal ?_ | refine andThen_exit ?_ | refine andThen_ret ?_ | refine inBlock_normal ?_ | refine inBlock_ret ?_ | refine inBlock_here ?_ | refine inBlock_out rfl ?_ | refine LWp.seq ?_ | refine LWp.region ?_ | refine LWp.block ?_ | refine LWp.exit ?_ | refine LWp.ret ?_ | refine LWp.skip ?_ | refine LOps.valA ?_ | refine LOps.outA ?_ | refine LOps.whenA ?_ | refine LOps.pickA ?_)
  refine LOps.storeA (b := b13) (off := 0) (cs := hdL noHd) (l := hdL ⟨2, 1⟩) ?_
  refine LOps.gen (fun S' => S.le S' ∧ S'.box b5 = some (ndL knA) ∧ S'.box b8 = some (ndL leafN) ∧ S'.box b11 = some (hdL ⟨1, 1⟩) ∧ S'.box b13 = some (hdL ⟨2, 1⟩)) ⟨hle.setBox s13 _, (box_set_ne _ _ n5_13).trans k5, (box_set_ne _ _ n8_13).trans k8, (box_set_ne _ _ n11_13).trans k11, (box_set _ _ _).trans (congrArg some (rfl))⟩ ?_
  clear hle k5 k8 k11 k13
  rintro Ss ⟨hle, k5, k8, k11, k13⟩
  repeat (first | refine LOps.nil ?_ | refine andThen_normal ?_ | refine andThen_exit ?_ | refine andThen_ret ?_ | refine inBlock_normal ?_ | refine inBlock_ret ?_ | refine inBlock_here ?_ | refine inBlock_out rfl ?_ | refine LWp.seq ?_ | refine LWp.region ?_ | refine LWp.block ?_ | refine LWp.exit ?_ | refine LWp.ret ?_ | refine LWp.skip ?_ | refine LOps.val (LVal.call rfl rfl (by rw [hP]; exact Try.func34) rfl (by decide) (ci)) rfl rfl rfl ?_ | refine LOps.val (LVal.call rfl rfl (by rw [hP]; exact Try.func20) rfl (by decide) (c7)) rfl rfl rfl ?_ | refine LOps.whenC (LVal.call rfl rfl (by rw [hP]; exact Try.func34) rfl (by decide) (ci)) ?_ | refine LOps.whenC (LVal.call rfl rfl (by rw [hP]; exact Try.func20) rfl (by decide) (c7)) ?_ | refine LOps.valA ?_ | refine LOps.outA ?_ | refine LOps.whenA ?_ | refine LOps.pickA ?_ | refine LOps.storeA ?_)
  skip
  refine LOps.do (LDo.alloc hD rfl rfl rfl) rfl rfl rfl ?_
  rintro _ _ ⟨b15, hb15, rfl, rfl⟩
  have n5_15 := fresh_ne hb15 k5
  have m15_5 := n5_15.symm
  have n8_15 := fresh_ne hb15 k8
  have m15_8 := n8_15.symm
  have n11_15 := fresh_ne hb15 k11
  have m15_11 := n11_15.symm
  have n13_15 := fresh_ne hb15 k13
  have m15_13 := n13_15.symm
  have s15 := hle.none hb15
  refine LOps.gen (fun S' => S.le S' ∧ S'.box b5 = some (ndL knA) ∧ S'.box b8 = some (ndL leafN) ∧ S'.box b11 = some (hdL ⟨1, 1⟩) ∧ S'.box b13 = some (hdL ⟨2, 1⟩) ∧ S'.box b15 = some (hdL noHd)) ⟨hle.newBox hb15 _, (box_new_ne _ _ n5_15).trans k5, (box_new_ne _ _ n8_15).trans k8, (box_new_ne _ _ n11_15).trans k11, (box_new_ne _ _ n13_15).trans k13, box_new _ _ _⟩ ?_
  clear hle hb15 k5 k8 k11 k13
  rintro S15 ⟨hle, k5, k8, k11, k13, k15⟩
  repeat (first | refine LOps.nil ?_ | refine andThen_normal ?_ | refine andThen_exit ?_ | refine andThen_ret ?_ | refine inBlock_normal ?_ | refine inBlock_ret ?_ | refine inBlock_here ?_ | refine inBlock_out rfl ?_ | refine LWp.seq ?_ | refine LWp.region ?_ | refine LWp.block ?_ | refine LWp.exit ?_ | refine LWp.ret ?_ | refine LWp.skip ?_ | refine LOps.valA ?_ | refine LOps.outA ?_ | refine LOps.whenA ?_ | refine LOps.pickA ?_)
  refine LOps.storeA (b := b15) (off := 0) (cs := hdL noHd) (l := hdL ⟨3, 1⟩) ?_
  refine LOps.gen (fun S' => S.le S' ∧ S'.box b5 = some (ndL knA) ∧ S'.box b8 = some (ndL leafN) ∧ S'.box b11 = some (hdL ⟨1, 1⟩) ∧ S'.box b13 = some (hdL ⟨2, 1⟩) ∧ S'.box b15 = some (hdL ⟨3, 1⟩)) ⟨hle.setBox s15 _, (box_set_ne _ _ n5_15).trans k5, (box_set_ne _ _ n8_15).trans k8, (box_set_ne _ _ n11_15).trans k11, (box_set_ne _ _ n13_15).trans k13, (box_set _ _ _).trans (congrArg some (rfl))⟩ ?_
  clear hle k5 k8 k11 k13 k15
  rintro Ss ⟨hle, k5, k8, k11, k13, k15⟩
  repeat (first | refine LOps.nil ?_ | refine andThen_normal ?_ | refine andThen_exit ?_ | refine andThen_ret ?_ | refine inBlock_normal ?_ | refine inBlock_ret ?_ | refine inBlock_here ?_ | refine inBlock_out rfl ?_ | refine LWp.seq ?_ | refine LWp.region ?_ | refine LWp.block ?_ | refine LWp.exit ?_ | refine LWp.ret ?_ | refine LWp.skip ?_ | refine LOps.val (LVal.call rfl rfl (by rw [hP]; exact Try.func33) rfl (by decide) (cl)) rfl rfl rfl ?_ | refine LOps.val (LVal.call rfl rfl (by rw [hP]; exact Try.func20) rfl (by decide) (c8)) rfl rfl rfl ?_ | refine LOps.whenC (LVal.call rfl rfl (by rw [hP]; exact Try.func33) rfl (by decide) (cl)) ?_ | refine LOps.whenC (LVal.call rfl rfl (by rw [hP]; exact Try.func20) rfl (by decide) (c8)) ?_ | refine LOps.valA ?_ | refine LOps.outA ?_ | refine LOps.whenA ?_ | refine LOps.pickA ?_ | refine LOps.storeA ?_)
  skip
  refine LOps.do (LDo.alloc hD rfl rfl rfl) rfl rfl rfl ?_
  rintro _ _ ⟨b17, hb17, rfl, rfl⟩
  have n5_17 := fresh_ne hb17 k5
  have m17_5 := n5_17.symm
  have n8_17 := fresh_ne hb17 k8
  have m17_8 := n8_17.symm
  have n11_17 := fresh_ne hb17 k11
  have m17_11 := n11_17.symm
  have n13_17 := fresh_ne hb17 k13
  have m17_13 := n13_17.symm
  have n15_17 := fresh_ne hb17 k15
  have m17_15 := n15_17.symm
  have s17 := hle.none hb17
  refine LOps.gen (fun S' => S.le S' ∧ S'.box b5 = some (ndL knA) ∧ S'.box b8 = some (ndL leafN) ∧ S'.box b11 = some (hdL ⟨1, 1⟩) ∧ S'.box b13 = some (hdL ⟨2, 1⟩) ∧ S'.box b15 = some (hdL ⟨3, 1⟩) ∧ S'.box b17 = some (hdL noHd)) ⟨hle.newBox hb17 _, (box_new_ne _ _ n5_17).trans k5, (box_new_ne _ _ n8_17).trans k8, (box_new_ne _ _ n11_17).trans k11, (box_new_ne _ _ n13_17).trans k13, (box_new_ne _ _ n15_17).trans k15, box_new _ _ _⟩ ?_
  clear hle hb17 k5 k8 k11 k13 k15
  rintro S17 ⟨hle, k5, k8, k11, k13, k15, k17⟩
  repeat (first | refine LOps.nil ?_ | refine andThen_normal ?_ | refine andThen_exit ?_ | refine andThen_ret ?_ | refine inBlock_normal ?_ | refine inBlock_ret ?_ | refine inBlock_here ?_ | refine inBlock_out rfl ?_ | refine LWp.seq ?_ | refine LWp.region ?_ | refine LWp.block ?_ | refine LWp.exit ?_ | refine LWp.ret ?_ | refine LWp.skip ?_ | refine LOps.valA ?_ | refine LOps.outA ?_ | refine LOps.whenA ?_ | refine LOps.pickA ?_)
  refine LOps.storeA (b := b17) (off := 0) (cs := hdL noHd) (l := hdL noHd) ?_
  refine LOps.gen (fun S' => S.le S' ∧ S'.box b5 = some (ndL knA) ∧ S'.box b8 = some (ndL leafN) ∧ S'.box b11 = some (hdL ⟨1, 1⟩) ∧ S'.box b13 = some (hdL ⟨2, 1⟩) ∧ S'.box b15 = some (hdL ⟨3, 1⟩) ∧ S'.box b17 = some (hdL noHd)) ⟨hle.setBox s17 _, (box_set_ne _ _ n5_17).trans k5, (box_set_ne _ _ n8_17).trans k8, (box_set_ne _ _ n11_17).trans k11, (box_set_ne _ _ n13_17).trans k13, (box_set_ne _ _ n15_17).trans k15, (box_set _ _ _).trans (congrArg some (rfl))⟩ ?_
  clear hle k5 k8 k11 k13 k15 k17
  rintro Ss ⟨hle, k5, k8, k11, k13, k15, k17⟩
  repeat (first | refine LOps.val (r := .agg (hdL ⟨7, 1⟩)) (LVal.to (LVal.build hD rfl rfl rfl rfl rfl rfl rfl) rfl) rfl rfl rfl ?_ | refine LOps.nil ?_ | refine andThen_normal ?_ | refine andThen_exit ?_ | refine andThen_ret ?_ | refine inBlock_normal ?_ | refine inBlock_ret ?_ | refine inBlock_here ?_ | refine inBlock_out rfl ?_ | refine LWp.seq ?_ | refine LWp.region ?_ | refine LWp.block ?_ | refine LWp.exit ?_ | refine LWp.ret ?_ | refine LWp.skip ?_ | refine LOps.val (LVal.call rfl rfl (by rw [hP]; exact Try.func34) rfl (by decide) (ci)) rfl rfl rfl ?_ | refine LOps.val (LVal.call rfl rfl (by rw [hP]; exact Try.func21) rfl (by decide) (c9)) rfl rfl rfl ?_ | refine LOps.whenC (LVal.call rfl rfl (by rw [hP]; exact Try.func34) rfl (by decide) (ci)) ?_ | refine LOps.whenC (LVal.call rfl rfl (by rw [hP]; exact Try.func21) rfl (by decide) (c9)) ?_ | refine LOps.valA ?_ | refine LOps.outA ?_ | refine LOps.whenA ?_ | refine LOps.pickA ?_ | refine LOps.storeA ?_)
  skip
  refine LOps.do (LDo.alloc hD rfl rfl rfl) rfl rfl rfl ?_
  rintro _ _ ⟨b19, hb19, rfl, rfl⟩
  have n5_19 := fresh_ne hb19 k5
  have m19_5 := n5_19.symm
  have n8_19 := fresh_ne hb19 k8
  have m19_8 := n8_19.symm
  have n11_19 := fresh_ne hb19 k11
  have m19_11 := n11_19.symm
  have n13_19 := fresh_ne hb19 k13
  have m19_13 := n13_19.symm
  have n15_19 := fresh_ne hb19 k15
  have m19_15 := n15_19.symm
  have n17_19 := fresh_ne hb19 k17
  have m19_17 := n17_19.symm
  have s19 := hle.none hb19
  refine LOps.gen (fun S' => S.le S' ∧ S'.box b5 = some (ndL knA) ∧ S'.box b8 = some (ndL leafN) ∧ S'.box b11 = some (hdL ⟨1, 1⟩) ∧ S'.box b13 = some (hdL ⟨2, 1⟩) ∧ S'.box b15 = some (hdL ⟨3, 1⟩) ∧ S'.box b17 = some (hdL noHd) ∧ S'.box b19 = some (ndX noNd (.sl .nil []) (.sl .nil []) (.sl .nil []))) ⟨hle.newBox hb19 _, (box_new_ne _ _ n5_19).trans k5, (box_new_ne _ _ n8_19).trans k8, (box_new_ne _ _ n11_19).trans k11, (box_new_ne _ _ n13_19).trans k13, (box_new_ne _ _ n15_19).trans k15, (box_new_ne _ _ n17_19).trans k17, box_new _ _ _⟩ ?_
  clear hle hb19 k5 k8 k11 k13 k15 k17
  rintro S19 ⟨hle, k5, k8, k11, k13, k15, k17, k19⟩
  repeat (first | refine LOps.nil ?_ | refine andThen_normal ?_ | refine andThen_exit ?_ | refine andThen_ret ?_ | refine inBlock_normal ?_ | refine inBlock_ret ?_ | refine inBlock_here ?_ | refine inBlock_out rfl ?_ | refine LWp.seq ?_ | refine LWp.region ?_ | refine LWp.block ?_ | refine LWp.exit ?_ | refine LWp.ret ?_ | refine LWp.skip ?_ | refine LOps.valA ?_ | refine LOps.outA ?_ | refine LOps.whenA ?_ | refine LOps.pickA ?_)
  refine LOps.storeA (b := b19) (off := 0) (cs := ndX noNd (.sl .nil []) (.sl .nil []) (.sl .nil [])) (l := ndL knC) ?_
  refine LOps.gen (fun S' => S.le S' ∧ S'.box b5 = some (ndL knA) ∧ S'.box b8 = some (ndL leafN) ∧ S'.box b11 = some (hdL ⟨1, 1⟩) ∧ S'.box b13 = some (hdL ⟨2, 1⟩) ∧ S'.box b15 = some (hdL ⟨3, 1⟩) ∧ S'.box b17 = some (hdL noHd) ∧ S'.box b19 = some (ndL knC)) ⟨hle.setBox s19 _, (box_set_ne _ _ n5_19).trans k5, (box_set_ne _ _ n8_19).trans k8, (box_set_ne _ _ n11_19).trans k11, (box_set_ne _ _ n13_19).trans k13, (box_set_ne _ _ n15_19).trans k15, (box_set_ne _ _ n17_19).trans k17, (box_set _ _ _).trans (congrArg some (rfl))⟩ ?_
  clear hle k5 k8 k11 k13 k15 k17 k19
  rintro Ss ⟨hle, k5, k8, k11, k13, k15, k17, k19⟩
  repeat (first | refine LOps.val (r := .agg (hdL ⟨9, 1⟩)) (LVal.to (LVal.build hD rfl rfl rfl rfl rfl rfl rfl) rfl) rfl rfl rfl ?_ | refine LOps.nil ?_ | refine andThen_normal ?_ | refine andThen_exit ?_ | refine andThen_ret ?_ | refine inBlock_normal ?_ | refine inBlock_ret ?_ | refine inBlock_here ?_ | refine inBlock_out rfl ?_ | refine LWp.seq ?_ | refine LWp.region ?_ | refine LWp.block ?_ | refine LWp.exit ?_ | refine LWp.ret ?_ | refine LWp.skip ?_ | refine LOps.val (LVal.call rfl rfl (by rw [hP]; exact Try.func33) rfl (by decide) (cl)) rfl rfl rfl ?_ | refine LOps.val (LVal.call rfl rfl (by rw [hP]; exact Try.func24) rfl (by decide) (c10)) rfl rfl rfl ?_ | refine LOps.whenC (LVal.call rfl rfl (by rw [hP]; exact Try.func33) rfl (by decide) (cl)) ?_ | refine LOps.whenC (LVal.call rfl rfl (by rw [hP]; exact Try.func24) rfl (by decide) (c10)) ?_ | refine LOps.valA ?_ | refine LOps.outA ?_ | refine LOps.whenA ?_ | refine LOps.pickA ?_ | refine LOps.storeA ?_)
  skip
  refine LOps.do (LDo.alloc hD rfl rfl rfl) rfl rfl rfl ?_
  rintro _ _ ⟨b20, hb20, rfl, rfl⟩
  have n5_20 := fresh_ne hb20 k5
  have m20_5 := n5_20.symm
  have n8_20 := fresh_ne hb20 k8
  have m20_8 := n8_20.symm
  have n11_20 := fresh_ne hb20 k11
  have m20_11 := n11_20.symm
  have n13_20 := fresh_ne hb20 k13
  have m20_13 := n13_20.symm
  have n15_20 := fresh_ne hb20 k15
  have m20_15 := n15_20.symm
  have n17_20 := fresh_ne hb20 k17
  have m20_17 := n17_20.symm
  have n19_20 := fresh_ne hb20 k19
  have m20_19 := n19_20.symm
  have s20 := hle.none hb20
  refine LOps.gen (fun S' => S.le S' ∧ S'.box b5 = some (ndL knA) ∧ S'.box b8 = some (ndL leafN) ∧ S'.box b11 = some (hdL ⟨1, 1⟩) ∧ S'.box b13 = some (hdL ⟨2, 1⟩) ∧ S'.box b15 = some (hdL ⟨3, 1⟩) ∧ S'.box b17 = some (hdL noHd) ∧ S'.box b19 = some (ndL knC) ∧ S'.box b20 = some (ndX noNd (.sl .nil []) (.sl .nil []) (.sl .nil []))) ⟨hle.newBox hb20 _, (box_new_ne _ _ n5_20).trans k5, (box_new_ne _ _ n8_20).trans k8, (box_new_ne _ _ n11_20).trans k11, (box_new_ne _ _ n13_20).trans k13, (box_new_ne _ _ n15_20).trans k15, (box_new_ne _ _ n17_20).trans k17, (box_new_ne _ _ n19_20).trans k19, box_new _ _ _⟩ ?_
  clear hle hb20 k5 k8 k11 k13 k15 k17 k19
  rintro S20 ⟨hle, k5, k8, k11, k13, k15, k17, k19, k20⟩
  skip
  refine LOps.do (LDo.alloc hD rfl rfl rfl) rfl rfl rfl ?_
  rintro _ _ ⟨b21, hb21, rfl, rfl⟩
  have n5_21 := fresh_ne hb21 k5
  have m21_5 := n5_21.symm
  have n8_21 := fresh_ne hb21 k8
  have m21_8 := n8_21.symm
  have n11_21 := fresh_ne hb21 k11
  have m21_11 := n11_21.symm
  have n13_21 := fresh_ne hb21 k13
  have m21_13 := n13_21.symm
  have n15_21 := fresh_ne hb21 k15
  have m21_15 := n15_21.symm
  have n17_21 := fresh_ne hb21 k17
  have m21_17 := n17_21.symm
  have n19_21 := fresh_ne hb21 k19
  have m21_19 := n19_21.symm
  have n20_21 := fresh_ne hb21 k20
  have m21_20 := n20_21.symm
  have s21 := hle.none hb21
  refine LOps.gen (fun S' => S.le S' ∧ S'.box b5 = some (ndL knA) ∧ S'.box b8 = some (ndL leafN) ∧ S'.box b11 = some (hdL ⟨1, 1⟩) ∧ S'.box b13 = some (hdL ⟨2, 1⟩) ∧ S'.box b15 = some (hdL ⟨3, 1⟩) ∧ S'.box b17 = some (hdL noHd) ∧ S'.box b19 = some (ndL knC) ∧ S'.box b20 = some (ndX noNd (.sl .nil []) (.sl .nil []) (.sl .nil [])) ∧ S'.box b21 = some (ndX noNd (.sl .nil []) (.sl .nil []) (.sl .nil []))) ⟨hle.newBox hb21 _, (box_new_ne _ _ n5_21).trans k5, (box_new_ne _ _ n8_21).trans k8, (box_new_ne _ _ n11_21).trans k11, (box_new_ne _ _ n13_21).trans k13, (box_new_ne _ _ n15_21).trans k15, (box_new_ne _ _ n17_21).trans k17, (box_new_ne _ _ n19_21).trans k19, (box_new_ne _ _ n20_21).trans k20, box_new _ _ _⟩ ?_
  clear hle hb21 k5 k8 k11 k13 k15 k17 k19 k20
  rintro S21 ⟨hle, k5, k8, k11, k13, k15, k17, k19, k20, k21⟩
  repeat (first | refine LOps.nil ?_ | refine andThen_normal ?_ | refine andThen_exit ?_ | refine andThen_ret ?_ | refine inBlock_normal ?_ | refine inBlock_ret ?_ | refine inBlock_here ?_ | refine inBlock_out rfl ?_ | refine LWp.seq ?_ | refine LWp.region ?_ | refine LWp.block ?_ | refine LWp.exit ?_ | refine LWp.ret ?_ | refine LWp.skip ?_ | refine LOps.valA ?_ | refine LOps.outA ?_ | refine LOps.whenA ?_ | refine LOps.pickA ?_)
  refine LOps.storeA (b := b20) (off := 0) (cs := ndX noNd (.sl .nil []) (.sl .nil []) (.sl .nil [])) (l := ndL knX) ?_
  refine LOps.gen (fun S' => S.le S' ∧ S'.box b5 = some (ndL knA) ∧ S'.box b8 = some (ndL leafN) ∧ S'.box b11 = some (hdL ⟨1, 1⟩) ∧ S'.box b13 = some (hdL ⟨2, 1⟩) ∧ S'.box b15 = some (hdL ⟨3, 1⟩) ∧ S'.box b17 = some (hdL noHd) ∧ S'.box b19 = some (ndL knC) ∧ S'.box b20 = some (ndL knX) ∧ S'.box b21 = some (ndX noNd (.sl .nil []) (.sl .nil []) (.sl .nil []))) ⟨hle.setBox s20 _, (box_set_ne _ _ n5_20).trans k5, (box_set_ne _ _ n8_20).trans k8, (box_set_ne _ _ n11_20).trans k11, (box_set_ne _ _ n13_20).trans k13, (box_set_ne _ _ n15_20).trans k15, (box_set_ne _ _ n17_20).trans k17, (box_set_ne _ _ n19_20).trans k19, (box_set _ _ _).trans (congrArg some (rfl)), (box_set_ne _ _ m21_20).trans k21⟩ ?_
  clear hle k5 k8 k11 k13 k15 k17 k19 k20 k21
  rintro Ss ⟨hle, k5, k8, k11, k13, k15, k17, k19, k20, k21⟩
  refine LOps.storeA (b := b21) (off := 0) (cs := ndX noNd (.sl .nil []) (.sl .nil []) (.sl .nil [])) (l := ndL knY) ?_
  refine LOps.gen (fun S' => S.le S' ∧ S'.box b5 = some (ndL knA) ∧ S'.box b8 = some (ndL leafN) ∧ S'.box b11 = some (hdL ⟨1, 1⟩) ∧ S'.box b13 = some (hdL ⟨2, 1⟩) ∧ S'.box b15 = some (hdL ⟨3, 1⟩) ∧ S'.box b17 = some (hdL noHd) ∧ S'.box b19 = some (ndL knC) ∧ S'.box b20 = some (ndL knX) ∧ S'.box b21 = some (ndL knY)) ⟨hle.setBox s21 _, (box_set_ne _ _ n5_21).trans k5, (box_set_ne _ _ n8_21).trans k8, (box_set_ne _ _ n11_21).trans k11, (box_set_ne _ _ n13_21).trans k13, (box_set_ne _ _ n15_21).trans k15, (box_set_ne _ _ n17_21).trans k17, (box_set_ne _ _ n19_21).trans k19, (box_set_ne _ _ n20_21).trans k20, (box_set _ _ _).trans (congrArg some (rfl))⟩ ?_
  clear hle k5 k8 k11 k13 k15 k17 k19 k20 k21
  rintro Ss ⟨hle, k5, k8, k11, k13, k15, k17, k19, k20, k21⟩
  repeat (first | refine LOps.nil ?_ | refine andThen_normal ?_ | refine andThen_exit ?_ | refine andThen_ret ?_ | refine inBlock_normal ?_ | refine inBlock_ret ?_ | refine inBlock_here ?_ | refine inBlock_out rfl ?_ | refine LWp.seq ?_ | refine LWp.region ?_ | refine LWp.block ?_ | refine LWp.exit ?_ | refine LWp.ret ?_ | refine LWp.skip ?_ | refine LOps.valA ?_ | refine LOps.outA ?_ | refine LOps.whenA ?_ | refine LOps.pickA ?_ | refine LOps.storeA ?_)
  refine LWp.drawL [0, 1, 2, 3, 4, 5, 6, 7, 8, 9, 10, 11, 12, 13, 14, 15, 16, 17, 18, 19, 20, 21, 22, 23, 24, 25, 26, 27, 28, 29, 30, 31, 32, 33, 34, 35, 36] (by rw [hP]; rfl) rfl ?_
  repeat (first | refine LRl.valC (fun _ => (LVal.call rfl rfl (by rw [hP]; exact Try.func33) rfl (by decide) (cl))) ?_ | refine LRl.valC (fun _ => (LVal.call rfl rfl (by rw [hP]; exact Try.func22) rfl (by decide) (c11))) ?_ | refine LRl.whenC (fun _ => (LVal.call rfl rfl (by rw [hP]; exact Try.func33) rfl (by decide) (cl))) ?_ | refine LRl.whenC (fun _ => (LVal.call rfl rfl (by rw [hP]; exact Try.func22) rfl (by decide) (c11))) ?_ | refine LRl.nil ?_ | refine LRl.valA ?_ | refine LRl.outA ?_ | refine LRl.whenA ?_ | refine LRl.pickA ?_)
  repeat (first | refine LOps.nil ?_ | refine andThen_normal ?_ | refine andThen_exit ?_ | refine andThen_ret ?_ | refine inBlock_normal ?_ | refine inBlock_ret ?_ | refine inBlock_here ?_ | refine inBlock_out rfl ?_ | refine LWp.seq ?_ | refine LWp.region ?_ | refine LWp.block ?_ | refine LWp.exit ?_ | refine LWp.ret ?_ | refine LWp.skip ?_ | refine LOps.valA ?_ | refine LOps.outA ?_ | refine LOps.whenA ?_ | refine LOps.pickA ?_ | refine LOps.storeA ?_)
  refine LWp.cond rfl (fun hx => ?_) (fun hx => ?_)
  · exfalso; revert hx; decide +kernel
  clear hx
  repeat (first | refine LOps.whenC (r := .one (.sl .sh (knC.keys.map sL))) (LVal.to (LVal.buildSlice hD rfl rfl rfl rfl rfl rfl rfl rfl rfl rfl) rfl) ?_ | refine LOps.nil ?_ | refine andThen_normal ?_ | refine andThen_exit ?_ | refine andThen_ret ?_ | refine inBlock_normal ?_ | refine inBlock_ret ?_ | refine inBlock_here ?_ | refine inBlock_out rfl ?_ | refine LWp.seq ?_ | refine LWp.region ?_ | refine LWp.block ?_ | refine LWp.exit ?_ | refine LWp.ret ?_ | refine LWp.skip ?_ | refine LOps.val (LVal.call rfl rfl (by rw [hP]; exact Try.func35) rfl (by decide) (c12)) rfl rfl rfl ?_ | refine LOps.whenC (LVal.call rfl rfl (by rw [hP]; exact Try.func35) rfl (by decide) (c12)) ?_ | refine LOps.valA ?_ | refine LOps.outA ?_ | refine LOps.whenA ?_ | refine LOps.pickA ?_ | refine LOps.storeA ?_)
  refine LWp.cond rfl (fun hx => ?_) (fun hx => ?_)
  · exfalso; revert hx; decide +kernel
  clear hx
  repeat (first | refine LOps.whenC (r := .one (.sl .sh (knY.keys.map sL))) (LVal.to (LVal.buildSlice hD rfl rfl rfl rfl rfl rfl rfl rfl rfl rfl) rfl) ?_ | refine LOps.nil ?_ | refine andThen_normal ?_ | refine andThen_exit ?_ | refine andThen_ret ?_ | refine inBlock_normal ?_ | refine inBlock_ret ?_ | refine inBlock_here ?_ | refine inBlock_out rfl ?_ | refine LWp.seq ?_ | refine LWp.region ?_ | refine LWp.block ?_ | refine LWp.exit ?_ | refine LWp.ret ?_ | refine LWp.skip ?_ | refine LOps.val (LVal.call rfl rfl (by rw [hP]; exact Try.func10) rfl (by decide) (ca)) rfl rfl rfl ?_ | refine LOps.val (LVal.call rfl rfl (by rw [hP]; exact Try.func35) rfl (by decide) (c13)) rfl rfl rfl ?_ | refine LOps.whenC (LVal.call rfl rfl (by rw [hP]; exact Try.func10) rfl (by decide) (ca)) ?_ | refine LOps.whenC (LVal.call rfl rfl (by rw [hP]; exact Try.func35) rfl (by decide) (c13)) ?_ | refine LOps.valA ?_ | refine LOps.outA ?_ | refine LOps.whenA ?_ | refine LOps.pickA ?_ | refine LOps.storeA ?_)
  exact ⟨_, LRes.one rfl, rfl⟩
end Go.Proofs.Ytjcpcgneghanfaa.LF

namespace Go.Proofs.Ytjcpcgneghanfaa
open Go.RowKit LF
theorem blnodeKnown_walk (W : World)  :
    Calls Try.prog 8 #[] W fun e W' => e = .returned (.bool true) ∧ Below W.heap.size W W' := by
  exact law_calls (fun G S h => known_L h S) .nil
end Go.Proofs.Ytjcpcgneghanfaa
