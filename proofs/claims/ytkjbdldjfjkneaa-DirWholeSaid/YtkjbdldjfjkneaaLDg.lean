/- The document's directory: Split, Merge. -/
import Derived.Test.YtkjbdldjfjkneaaLDf
set_option linter.unusedVariables false
set_option linter.unusedSimpArgs false
namespace Go.Proofs.Ytkjbdldjfjkneaa.LF
open Go.RowKit
set_option linter.unusedVariables false

set_option maxHeartbeats 4000000 in
theorem refSplit_F {G : Ctx} (hP : G.P = Try.prog) (d : Dv Int) (hdl : d.los.length = d.xs.length) (hsm : d.los.length ≤ 1000000) (hs : ∀ x ∈ d.los, x.size ≤ 1000) (i : Int) (at' : ByteArray) (ha : at'.size ≤ 1000) (a b : Int) :
    LFun G 43 [.agg (dLI d), .one (iv i), .one (sv at'), .one (iv a), .one (iv b)] (.tup [.agg (dLI (refSplitR d i at' a b).1), .one (iv (refSplitR d i at' a b).2)]) := LFun.of fun S => by
  have hD : TabOK G.P D := by rw [hP]; exact hD0
  have hlo := refLo_F hP d hsm i
  have hr := refReplace_F hP d hdl hsm hs i 1 [(atDI (some d) i).1, at'] [a, b] (by simp) (by simp) (by
    intro x hx
    simp only [List.mem_cons, List.not_mem_nil, or_false] at hx
    rcases hx with rfl | rfl
    · exact atD_size hs i
    · exact ha)
  refine LCalls.enter (fn := Try.f43) (by rw [hP]; exact Try.func43) rfl rfl ?_
  repeat (first | refine LOps.nil ?_ | refine andThen_normal ?_ | refine andThen_exit ?_ | refine andThen_ret ?_ | refine inBlock_normal ?_ | refine inBlock_ret ?_ | refine inBlock_here ?_ | refine inBlock_out rfl ?_ | refine LWp.seq ?_ | refine LWp.region ?_ | refine LWp.block ?_ | refine LWp.exit ?_ | refine LWp.ret ?_ | refine LWp.skip ?_ | refine LOps.valA ?_ | refine LOps.outA ?_ | refine LOps.whenA ?_ | refine LOps.pickA ?_ | refine LOps.storeA ?_)
  refine LOps.do (LDo.box rfl rfl) rfl rfl rfl ?_
  rintro _ _ ⟨b5, hb5, rfl, rfl⟩
  have hle := (LS.le.refl S).newBox hb5 (dLI d)
  have k5 := box_new S b5 (dLI d)
  generalize S.newBox b5 (dLI d) = S0 at hle k5
  repeat (first | refine LOps.nil ?_ | refine andThen_normal ?_ | refine andThen_exit ?_ | refine andThen_ret ?_ | refine inBlock_normal ?_ | refine inBlock_ret ?_ | refine inBlock_here ?_ | refine inBlock_out rfl ?_ | refine LWp.seq ?_ | refine LWp.region ?_ | refine LWp.block ?_ | refine LWp.exit ?_ | refine LWp.ret ?_ | refine LWp.skip ?_ | refine LOps.valA ?_ | refine LOps.outA ?_ | refine LOps.whenA ?_ | refine LOps.pickA ?_ | refine LOps.storeA ?_)
  refine LOps.do (LDo.alloc hD rfl rfl rfl) rfl rfl rfl ?_
  rintro _ _ ⟨b10, hb10, rfl, rfl⟩
  have n1 := fresh_ne hb10 k5
  have s10 := hle.none hb10
  have hle := hle.newBox hb10 (ti55.zero.cells.toList.map constLV)
  have k5 := (box_new_ne _ (ti55.zero.cells.toList.map constLV) n1).trans k5
  have k10 := box_new S0 b10 (ti55.zero.cells.toList.map constLV)
  generalize S0.newBox b10 (ti55.zero.cells.toList.map constLV) = S1 at hle k5 k10
  repeat (first | refine LOps.nil ?_ | refine andThen_normal ?_ | refine andThen_exit ?_ | refine andThen_ret ?_ | refine inBlock_normal ?_ | refine inBlock_ret ?_ | refine inBlock_here ?_ | refine inBlock_out rfl ?_ | refine LWp.seq ?_ | refine LWp.region ?_ | refine LWp.block ?_ | refine LWp.exit ?_ | refine LWp.ret ?_ | refine LWp.skip ?_ | refine LOps.valA ?_ | refine LOps.outA ?_ | refine LOps.whenA ?_ | refine LOps.pickA ?_ | refine LOps.storeA ?_)
  refine LWp.drawL [0, 1, 2, 3, 4, 5, 6, 7, 8, 9, 10, 11, 12, 13, 14] (by rw [hP]; rfl) rfl ?_
  repeat (first | refine LRl.val (fun _ _ => LVal.buildSlice hD rfl rfl rfl rfl rfl rfl rfl rfl rfl rfl) rfl rfl rfl ?_ | refine LRl.valC (fun _ => (LVal.call rfl rfl (by rw [hP]; exact Try.func52) rfl (by decide) (hlo))) ?_ | refine LRl.valC (fun _ => (LVal.call rfl rfl (by rw [hP]; exact Try.func45) rfl (by decide) (hr))) ?_ | refine LRl.whenC (fun _ => (LVal.call rfl rfl (by rw [hP]; exact Try.func52) rfl (by decide) (hlo))) ?_ | refine LRl.whenC (fun _ => (LVal.call rfl rfl (by rw [hP]; exact Try.func45) rfl (by decide) (hr))) ?_ | refine LRl.nil ?_ | refine LRl.valA ?_ | refine LRl.outA ?_ | refine LRl.whenA ?_ | refine LRl.pickA ?_)
  refine LRl.act0 (LDo.store hD rfl rfl k10 rfl rfl rfl rfl) rfl rfl rfl (fun _ _ _ => .inr rfl) ?_
  rintro _ _ ⟨rfl, rfl⟩
  repeat (first | refine LRl.nil ?_ | refine LRl.valA ?_ | refine LRl.outA ?_ | refine LRl.whenA ?_ | refine LRl.pickA ?_)
  repeat (first | refine LOps.nil ?_ | refine andThen_normal ?_ | refine andThen_exit ?_ | refine andThen_ret ?_ | refine inBlock_normal ?_ | refine inBlock_ret ?_ | refine inBlock_here ?_ | refine inBlock_out rfl ?_ | refine LWp.seq ?_ | refine LWp.region ?_ | refine LWp.block ?_ | refine LWp.exit ?_ | refine LWp.ret ?_ | refine LWp.skip ?_ | refine LOps.valA ?_ | refine LOps.outA ?_ | refine LOps.whenA ?_ | refine LOps.pickA ?_ | refine LOps.storeA ?_)
  exact ⟨_, refRes hP rfl rfl (box_set _ _ _) rfl rfl rfl, rfl, hle.setBox s10 _⟩

set_option maxHeartbeats 4000000 in
theorem refMerge_F {G : Ctx} (hP : G.P = Try.prog) (d : Dv Int) (hdl : d.los.length = d.xs.length) (hsm : d.los.length ≤ 1000000) (hs : ∀ x ∈ d.los, x.size ≤ 1000) (i : Int) (x : Int) :
    LFun G 44 [.agg (dLI d), .one (iv i), .one (iv x)] (.tup [.agg (dLI (refMergeR d i x).1), .one (iv (refMergeR d i x).2)]) := LFun.of fun S => by
  have hD : TabOK G.P D := by rw [hP]; exact hD0
  have hlo := refLo_F hP d hsm i
  have hr := refReplace_F hP d hdl hsm hs i 2 [(atDI (some d) i).1] [x] (by simp) (by simp) (by
    intro y hx
    simp only [List.mem_cons, List.not_mem_nil, or_false] at hx
    rw [hx]
    exact atD_size hs i)
  refine LCalls.enter (fn := Try.f44) (by rw [hP]; exact Try.func44) rfl rfl ?_
  repeat (first | refine LOps.nil ?_ | refine andThen_normal ?_ | refine andThen_exit ?_ | refine andThen_ret ?_ | refine inBlock_normal ?_ | refine inBlock_ret ?_ | refine inBlock_here ?_ | refine inBlock_out rfl ?_ | refine LWp.seq ?_ | refine LWp.region ?_ | refine LWp.block ?_ | refine LWp.exit ?_ | refine LWp.ret ?_ | refine LWp.skip ?_ | refine LOps.valA ?_ | refine LOps.outA ?_ | refine LOps.whenA ?_ | refine LOps.pickA ?_ | refine LOps.storeA ?_)
  refine LOps.do (LDo.box rfl rfl) rfl rfl rfl ?_
  rintro _ _ ⟨b3, hb3, rfl, rfl⟩
  have hle := (LS.le.refl S).newBox hb3 (dLI d)
  have k5 := box_new S b3 (dLI d)
  generalize S.newBox b3 (dLI d) = S0 at hle k5
  repeat (first | refine LOps.nil ?_ | refine andThen_normal ?_ | refine andThen_exit ?_ | refine andThen_ret ?_ | refine inBlock_normal ?_ | refine inBlock_ret ?_ | refine inBlock_here ?_ | refine inBlock_out rfl ?_ | refine LWp.seq ?_ | refine LWp.region ?_ | refine LWp.block ?_ | refine LWp.exit ?_ | refine LWp.ret ?_ | refine LWp.skip ?_ | refine LOps.valA ?_ | refine LOps.outA ?_ | refine LOps.whenA ?_ | refine LOps.pickA ?_ | refine LOps.storeA ?_)
  refine LOps.do (LDo.alloc hD rfl rfl rfl) rfl rfl rfl ?_
  rintro _ _ ⟨b6, hb6, rfl, rfl⟩
  have n1 := fresh_ne hb6 k5
  have s10 := hle.none hb6
  have hle := hle.newBox hb6 (ti55.zero.cells.toList.map constLV)
  have k5 := (box_new_ne _ (ti55.zero.cells.toList.map constLV) n1).trans k5
  have k10 := box_new S0 b6 (ti55.zero.cells.toList.map constLV)
  generalize S0.newBox b6 (ti55.zero.cells.toList.map constLV) = S1 at hle k5 k10
  repeat (first | refine LOps.nil ?_ | refine andThen_normal ?_ | refine andThen_exit ?_ | refine andThen_ret ?_ | refine inBlock_normal ?_ | refine inBlock_ret ?_ | refine inBlock_here ?_ | refine inBlock_out rfl ?_ | refine LWp.seq ?_ | refine LWp.region ?_ | refine LWp.block ?_ | refine LWp.exit ?_ | refine LWp.ret ?_ | refine LWp.skip ?_ | refine LOps.valA ?_ | refine LOps.outA ?_ | refine LOps.whenA ?_ | refine LOps.pickA ?_ | refine LOps.storeA ?_)
  refine LWp.drawL [0, 1, 2, 3, 4, 5, 6, 7, 8, 9, 10, 11, 12] (by rw [hP]; rfl) rfl ?_
  repeat (first | refine LRl.val (fun _ _ => LVal.buildSlice hD rfl rfl rfl rfl rfl rfl rfl rfl rfl rfl) rfl rfl rfl ?_ | refine LRl.valC (fun _ => (LVal.call rfl rfl (by rw [hP]; exact Try.func52) rfl (by decide) (hlo))) ?_ | refine LRl.valC (fun _ => (LVal.call rfl rfl (by rw [hP]; exact Try.func45) rfl (by decide) (hr))) ?_ | refine LRl.whenC (fun _ => (LVal.call rfl rfl (by rw [hP]; exact Try.func52) rfl (by decide) (hlo))) ?_ | refine LRl.whenC (fun _ => (LVal.call rfl rfl (by rw [hP]; exact Try.func45) rfl (by decide) (hr))) ?_ | refine LRl.nil ?_ | refine LRl.valA ?_ | refine LRl.outA ?_ | refine LRl.whenA ?_ | refine LRl.pickA ?_)
  refine LRl.act0 (LDo.store hD rfl rfl k10 rfl rfl rfl rfl) rfl rfl rfl (fun _ _ _ => .inr rfl) ?_
  rintro _ _ ⟨rfl, rfl⟩
  repeat (first | refine LRl.nil ?_ | refine LRl.valA ?_ | refine LRl.outA ?_ | refine LRl.whenA ?_ | refine LRl.pickA ?_)
  repeat (first | refine LOps.nil ?_ | refine andThen_normal ?_ | refine andThen_exit ?_ | refine andThen_ret ?_ | refine inBlock_normal ?_ | refine inBlock_ret ?_ | refine inBlock_here ?_ | refine inBlock_out rfl ?_ | refine LWp.seq ?_ | refine LWp.region ?_ | refine LWp.block ?_ | refine LWp.exit ?_ | refine LWp.ret ?_ | refine LWp.skip ?_ | refine LOps.valA ?_ | refine LOps.outA ?_ | refine LOps.whenA ?_ | refine LOps.pickA ?_ | refine LOps.storeA ?_)
  exact ⟨_, refRes hP rfl rfl (box_set _ _ _) rfl rfl rfl, rfl, hle.setBox s10 _⟩
end Go.Proofs.Ytkjbdldjfjkneaa.LF
