/- The walk of the law 'HistoryKnown'. -/
import Derived.Test.YtmdfjojohfhcgaaLHn
set_option linter.unusedVariables false
set_option linter.unusedSimpArgs false
namespace Go.Proofs.Ytmdfjojohfhcgaa.LF
open Go.RowKit

def oneB : ByteArray := { data := #[49] }
def kOp : OpV := ⟨1, kBytes, noBytes, noBytes, false, false, []⟩
def kAns : Ans := ⟨0, true, noBytes, oneB⟩
def kEvs : List Ev := [⟨1, 1, kOp, noAns⟩, ⟨2, 1, noOp, kAns⟩, ⟨1, 2, noOp, noAns⟩, ⟨3, 1, noOp, kAns⟩, ⟨2, 2, noOp, noAns⟩]
def kRows : List (List Ev × Int) := [([⟨1, 1, noOp, noAns⟩, ⟨3, 1, noOp, noAns⟩], 1), ([⟨2, 1, noOp, noAns⟩], 0), ([⟨1, 1, noOp, noAns⟩, ⟨1, 1, noOp, noAns⟩], 1), ([⟨1, 0, noOp, noAns⟩], 0), ([⟨0, 1, noOp, noAns⟩], 0),
  ([⟨1, 1, noOp, kAns⟩], 0), ([⟨1, 1, noOp, noAns⟩, ⟨2, 1, kOp, noAns⟩], 1), ([⟨1, 1, kOp, noAns⟩, ⟨2, 1, noOp, kAns⟩, ⟨3, 1, noOp, noAns⟩], 2)]
def rowL (x : List Ev × Int) : List LV := [.sl .sh (x.1.map evL), iv x.2]
def kTwo : List Ev := [⟨3, 1, noOp, noAns⟩, ⟨1, 2, noOp, noAns⟩]

theorem kRows_check : ∀ (j : Nat) (h : j < kRows.length), checkS (fun _ => noKn) kRows[j].1 0 = (kRows[j].2, 31) := by decide +kernel
theorem kRows_len : ∀ (j : Nat) (h : j < kRows.length), kRows[j].1.length ≤ 1000000 := by decide +kernel

set_option maxHeartbeats 8000000 in
set_option maxRecDepth 100000 in
theorem known_L {G : Ctx} (hP : G.P = Try.prog) (S : LS) : LCalls G 7 [] (fun r _ => r = .one (bv true)) S := by
  have hD : TabOK G.P D := by rw [hP]; exact hD0
  have ea : EqTy G.P D 32 := by rw [hP]; exact eqAns
  refine LCalls.enter (fn := Try.f7) (by rw [hP]; exact Try.func7) rfl rfl ?_
  repeat (first | refine LOps.val (LVal.shTo (LVal.build hD rfl rfl rfl rfl rfl rfl rfl) rfl) rfl rfl rfl ?_ | refine LOps.nil ?_ | refine andThen_normal ?_ | refine andThen_exit ?_ | refine andThen_ret ?_ | refine inBlock_normal ?_ | refine inBlock_ret ?_ | refine inBlock_here ?_ | refine inBlock_out rfl ?_ | refine LWp.seq ?_ | refine LWp.region ?_ | refine LWp.block ?_ | refine LWp.exit ?_ | refine LWp.ret ?_ | refine LWp.skip ?_ | refine LOps.valA ?_ | refine LOps.outA ?_ | refine LOps.whenA ?_ | refine LOps.pickA ?_ | refine LOps.storeA ?_)
  refine LOps.do (LDo.alloc hD rfl rfl rfl) rfl rfl rfl ?_
  rintro _ _ ⟨b1, hb1, rfl, rfl⟩
  repeat (first | refine LOps.gen (fun S1 => S1.box b1 = some (opL kOp)) (box_set _ _ _) ?_ | refine LOps.val (LVal.shTo (LVal.build hD rfl rfl rfl rfl rfl rfl rfl) rfl) rfl rfl rfl ?_ | refine LOps.nil ?_ | refine andThen_normal ?_ | refine andThen_exit ?_ | refine andThen_ret ?_ | refine inBlock_normal ?_ | refine inBlock_ret ?_ | refine inBlock_here ?_ | refine inBlock_out rfl ?_ | refine LWp.seq ?_ | refine LWp.region ?_ | refine LWp.block ?_ | refine LWp.exit ?_ | refine LWp.ret ?_ | refine LWp.skip ?_ | refine LOps.valA ?_ | refine LOps.outA ?_ | refine LOps.whenA ?_ | refine LOps.pickA ?_ | refine LOps.storeA ?_)
  clear hb1
  intro S1 k1
  repeat (first | refine LOps.val (LVal.shTo (LVal.build hD rfl rfl rfl rfl rfl rfl rfl) rfl) rfl rfl rfl ?_ | refine LOps.nil ?_ | refine andThen_normal ?_ | refine andThen_exit ?_ | refine andThen_ret ?_ | refine inBlock_normal ?_ | refine inBlock_ret ?_ | refine inBlock_here ?_ | refine inBlock_out rfl ?_ | refine LWp.seq ?_ | refine LWp.region ?_ | refine LWp.block ?_ | refine LWp.exit ?_ | refine LWp.ret ?_ | refine LWp.skip ?_ | refine LOps.valA ?_ | refine LOps.outA ?_ | refine LOps.whenA ?_ | refine LOps.pickA ?_ | refine LOps.storeA ?_)
  refine LOps.do (LDo.alloc hD rfl rfl rfl) rfl rfl rfl ?_
  rintro _ _ ⟨b2, hb2, rfl, rfl⟩
  have n12 := fresh_ne hb2 k1
  repeat (first | refine LOps.gen (fun S1 => S1.box b1 = some (opL kOp) ∧ S1.box b2 = some (ansL kAns)) ⟨(box_set_ne _ _ n12).trans ((box_new_ne _ _ n12).trans k1), box_set _ _ _⟩ ?_ | refine LOps.nil ?_ | refine andThen_normal ?_ | refine andThen_exit ?_ | refine andThen_ret ?_ | refine inBlock_normal ?_ | refine inBlock_ret ?_ | refine inBlock_here ?_ | refine inBlock_out rfl ?_ | refine LWp.seq ?_ | refine LWp.region ?_ | refine LWp.block ?_ | refine LWp.exit ?_ | refine LWp.ret ?_ | refine LWp.skip ?_ | refine LOps.valA ?_ | refine LOps.outA ?_ | refine LOps.whenA ?_ | refine LOps.pickA ?_ | refine LOps.storeA ?_)
  clear hb2 k1
  rintro S2 ⟨k1, k2⟩
  repeat (first | refine LOps.val (LVal.shTo (LVal.build hD rfl rfl rfl rfl rfl rfl rfl) rfl) rfl rfl rfl ?_ | refine LOps.val (r := .one (.sl .sh (kEvs.map evL))) (LVal.to (LVal.buildSlice hD rfl rfl rfl rfl rfl rfl rfl rfl rfl rfl) rfl) rfl rfl rfl ?_ | refine LOps.nil ?_ | refine andThen_normal ?_ | refine andThen_exit ?_ | refine andThen_ret ?_ | refine inBlock_normal ?_ | refine inBlock_ret ?_ | refine inBlock_here ?_ | refine inBlock_out rfl ?_ | refine LWp.seq ?_ | refine LWp.region ?_ | refine LWp.block ?_ | refine LWp.exit ?_ | refine LWp.ret ?_ | refine LWp.skip ?_ | refine LOps.val (LVal.call rfl rfl (by rw [hP]; exact Try.func18) rfl (by decide) (check_F hP kEvs (by decide))) rfl rfl rfl ?_ | refine LOps.val (LVal.call rfl rfl (by rw [hP]; exact Try.func19) rfl (by decide) (marks_F hP kEvs (by decide))) rfl rfl rfl ?_ | refine LOps.val (LVal.call rfl rfl (by rw [hP]; exact Try.func23) rfl (by decide) (state_F hP kEvs (by decide) (by decide) _)) rfl rfl rfl ?_ | refine LOps.whenC (LVal.call rfl rfl (by rw [hP]; exact Try.func18) rfl (by decide) (check_F hP kEvs (by decide))) ?_ | refine LOps.whenC (LVal.call rfl rfl (by rw [hP]; exact Try.func19) rfl (by decide) (marks_F hP kEvs (by decide))) ?_ | refine LOps.whenC (LVal.call rfl rfl (by rw [hP]; exact Try.func23) rfl (by decide) (state_F hP kEvs (by decide) (by decide) _)) ?_ | refine LOps.valA ?_ | refine LOps.outA ?_ | refine LOps.whenA ?_ | refine LOps.pickA ?_ | refine LOps.storeA ?_)
  refine LOps.do (LDo.alloc hD rfl rfl rfl) rfl rfl rfl ?_
  rintro _ _ ⟨b7, hb7, rfl, rfl⟩
  refine LOps.do (LDo.alloc hD rfl rfl rfl) rfl rfl rfl ?_
  rintro _ _ ⟨b8, hb8, rfl, rfl⟩
  have n78 : b7 ≠ b8 := fresh_ne hb8 (box_new _ _ _)
  have n78' := n78.symm
  have m1 := fresh_ne hb7 k1
  have m2 := fresh_ne hb7 k2
  have m3 := fresh_ne hb8 ((box_new_ne _ (lzero ti29) m1).trans k1)
  have m4 := fresh_ne hb8 ((box_new_ne _ (lzero ti29) m2).trans k2)
  repeat (first | refine LOps.gen (fun S1 => S1.box b1 = some (opL kOp) ∧ S1.box b2 = some (ansL kAns) ∧ S1.box b7 = some (opL (findE kEvs 1 1).op) ∧ S1.box b8 = some (ansL (findE kEvs 2 1).ans)) ⟨(box_set_ne _ _ m3).trans ((box_set_ne _ _ m1).trans ((box_new_ne _ _ m3).trans ((box_new_ne _ _ m1).trans k1))), (box_set_ne _ _ m4).trans ((box_set_ne _ _ m2).trans ((box_new_ne _ _ m4).trans ((box_new_ne _ _ m2).trans k2))), (box_set_ne _ _ n78).trans (box_set _ _ _), box_set _ _ _⟩ ?_ | refine LOps.nil ?_ | refine andThen_normal ?_ | refine andThen_exit ?_ | refine andThen_ret ?_ | refine inBlock_normal ?_ | refine inBlock_ret ?_ | refine inBlock_here ?_ | refine inBlock_out rfl ?_ | refine LWp.seq ?_ | refine LWp.region ?_ | refine LWp.block ?_ | refine LWp.exit ?_ | refine LWp.ret ?_ | refine LWp.skip ?_ | refine LOps.valA ?_ | refine LOps.outA ?_ | refine LOps.whenA ?_ | refine LOps.pickA ?_ | refine LOps.storeA ?_)
  clear hb7 hb8 k1 k2
  rintro S3 ⟨k1, k2, k7, k8⟩
  repeat (first | refine LOps.nil ?_ | refine andThen_normal ?_ | refine andThen_exit ?_ | refine andThen_ret ?_ | refine inBlock_normal ?_ | refine inBlock_ret ?_ | refine inBlock_here ?_ | refine inBlock_out rfl ?_ | refine LWp.seq ?_ | refine LWp.region ?_ | refine LWp.block ?_ | refine LWp.exit ?_ | refine LWp.ret ?_ | refine LWp.skip ?_ | refine LOps.val (LVal.call rfl rfl (by rw [hP]; exact Try.func20) rfl (by decide) (ahead_F hP kEvs (by decide) 1 2)) rfl rfl rfl ?_ | refine LOps.whenC (LVal.call rfl rfl (by rw [hP]; exact Try.func20) rfl (by decide) (ahead_F hP kEvs (by decide) 1 2)) ?_ | refine LOps.valA ?_ | refine LOps.outA ?_ | refine LOps.whenA ?_ | refine LOps.pickA ?_ | refine LOps.storeA ?_)
  refine LWp.drawL [0, 1, 2, 3, 4, 5, 6, 7, 8, 9, 10, 11, 12, 13, 14, 15, 16, 17, 18, 19, 20, 21, 22, 23, 24, 25, 26, 27, 28, 29, 30, 31, 32, 33, 34, 35, 36] (by rw [hP]; rfl) rfl ?_
  repeat (first | refine LRl.valC (r := .one (.sl .sh (kRows.map rowL))) (fun _ => LVal.to (LVal.buildSlice hD rfl rfl rfl rfl rfl rfl rfl rfl rfl rfl) rfl) ?_ | refine LRl.valC (fun _ => LVal.shTo (LVal.build hD rfl rfl rfl rfl rfl rfl rfl) rfl) ?_ | refine LRl.valC (fun _ => LVal.buildSlice hD rfl rfl rfl rfl rfl rfl rfl rfl rfl rfl) ?_ | refine LRl.nil ?_ | refine LRl.valA ?_ | refine LRl.outA ?_ | refine LRl.whenA ?_ | refine LRl.pickA ?_)
  have h8 : kRows.length = 8 := rfl
  have hst3 := state_F hP kEvs (by decide) (by decide) 3
  repeat (first | refine LOps.nil ?_ | refine andThen_normal ?_ | refine andThen_exit ?_ | refine andThen_ret ?_ | refine inBlock_normal ?_ | refine inBlock_ret ?_ | refine inBlock_here ?_ | refine inBlock_out rfl ?_ | refine LWp.seq ?_ | refine LWp.region ?_ | refine LWp.block ?_ | refine LWp.exit ?_ | refine LWp.ret ?_ | refine LWp.skip ?_ | refine LOps.valA ?_ | refine LOps.outA ?_ | refine LOps.whenA ?_ | refine LOps.pickA ?_ | refine LOps.storeA ?_)
  refine LWp.loop (fun k T S' => ∃ T' j, j ≤ kRows.length ∧ k = kRows.length - j ∧ T = over T' [(3, .one (.sl .sh (kEvs.map evL))), (10, .one (bv true)), (11, .one (.sl .sh (kRows.map rowL))), (12, .one (iv (j : Nat)))]) kRows.length ?_ ?_
  · exact ⟨_, 0, by omega, by omega, holds.over ⟨rfl, isTrue _ (by decide +kernel), rfl, rfl, trivial⟩⟩
  clear k1 k2 k7 k8 S3
  rintro k T S3 ⟨T', j, hj, rfl, rfl⟩
  repeat (first | refine LOps.nil ?_ | refine andThen_normal ?_ | refine andThen_exit ?_ | refine andThen_ret ?_ | refine inBlock_normal ?_ | refine inBlock_ret ?_ | refine inBlock_here ?_ | refine inBlock_out rfl ?_ | refine LWp.seq ?_ | refine LWp.region ?_ | refine LWp.block ?_ | refine LWp.exit ?_ | refine LWp.ret ?_ | refine LWp.skip ?_ | refine LOps.valA ?_ | refine LOps.outA ?_ | refine LOps.whenA ?_ | refine LOps.pickA ?_ | refine LOps.storeA ?_)
  refine LWp.cond rfl (fun h => ?_) (fun h => ?_)
  · have hlt : j < kRows.length := by simpa using h
    have hc := check_F hP kRows[j].1 (kRows_len j hlt)
    rw [kRows_check j hlt] at hc
    repeat (first | refine LOps.nil ?_ | refine andThen_normal ?_ | refine andThen_exit ?_ | refine andThen_ret ?_ | refine inBlock_normal ?_ | refine inBlock_ret ?_ | refine inBlock_here ?_ | refine inBlock_out rfl ?_ | refine LWp.seq ?_ | refine LWp.region ?_ | refine LWp.block ?_ | refine LWp.exit ?_ | refine LWp.ret ?_ | refine LWp.skip ?_ | refine LOps.val (LVal.call rfl rfl (by rw [hP]; exact Try.func18) rfl (by decide) (hc)) rfl rfl rfl ?_ | refine LOps.whenC (LVal.call rfl rfl (by rw [hP]; exact Try.func18) rfl (by decide) (hc)) ?_ | refine LOps.valA ?_ | refine LOps.outA ?_ | refine LOps.whenA ?_ | refine LOps.pickA ?_ | refine LOps.storeA ?_)
    refine LWp.cond rfl (fun h => ?_) (fun h => ?_)
    · simp at h
    repeat (first | refine LOps.nil ?_ | refine andThen_normal ?_ | refine andThen_exit ?_ | refine andThen_ret ?_ | refine inBlock_normal ?_ | refine inBlock_ret ?_ | refine inBlock_here ?_ | refine inBlock_out rfl ?_ | refine LWp.seq ?_ | refine LWp.region ?_ | refine LWp.block ?_ | refine LWp.exit ?_ | refine LWp.ret ?_ | refine LWp.skip ?_ | refine LOps.valA ?_ | refine LOps.outA ?_ | refine LOps.whenA ?_ | refine LOps.pickA ?_ | refine LOps.storeA ?_)
    exact ⟨kRows.length - (j + 1), by omega, _, j + 1, by omega, rfl, holds.over ⟨rfl, rfl, rfl, rfl, trivial⟩⟩
  repeat (first | refine LOps.nil ?_ | refine andThen_normal ?_ | refine andThen_exit ?_ | refine andThen_ret ?_ | refine inBlock_normal ?_ | refine inBlock_ret ?_ | refine inBlock_here ?_ | refine inBlock_out rfl ?_ | refine LWp.seq ?_ | refine LWp.region ?_ | refine LWp.block ?_ | refine LWp.exit ?_ | refine LWp.ret ?_ | refine LWp.skip ?_ | refine LOps.val (LVal.call rfl rfl (by rw [hP]; exact Try.func23) rfl (by decide) (hst3)) rfl rfl rfl ?_ | refine LOps.whenC (LVal.call rfl rfl (by rw [hP]; exact Try.func23) rfl (by decide) (hst3)) ?_ | refine LOps.valA ?_ | refine LOps.outA ?_ | refine LOps.whenA ?_ | refine LOps.pickA ?_ | refine LOps.storeA ?_)
  refine LOps.do (LDo.alloc hD rfl rfl rfl) rfl rfl rfl ?_
  rintro _ _ ⟨b15, hb15, rfl, rfl⟩
  refine LOps.do (LDo.alloc hD rfl rfl rfl) rfl rfl rfl ?_
  rintro _ _ ⟨b16, hb16, rfl, rfl⟩
  have n78 : b15 ≠ b16 := fresh_ne hb16 (box_new _ _ _)
  have n78' := n78.symm
  repeat (first | refine LOps.whenC (LVal.shTo (LVal.build hD rfl rfl rfl rfl rfl rfl rfl) rfl) ?_ | refine LOps.whenC (r := .one (.sl .sh (kTwo.map evL))) (LVal.to (LVal.buildSlice hD rfl rfl rfl rfl rfl rfl rfl rfl rfl rfl) rfl) ?_ | refine LOps.nil ?_ | refine andThen_normal ?_ | refine andThen_exit ?_ | refine andThen_ret ?_ | refine inBlock_normal ?_ | refine inBlock_ret ?_ | refine inBlock_here ?_ | refine inBlock_out rfl ?_ | refine LWp.seq ?_ | refine LWp.region ?_ | refine LWp.block ?_ | refine LWp.exit ?_ | refine LWp.ret ?_ | refine LWp.skip ?_ | refine LOps.val (LVal.call rfl rfl (by rw [hP]; exact Try.func20) rfl (by decide) (ahead_F hP kTwo (by decide) 1 2)) rfl rfl rfl ?_ | refine LOps.val (LVal.call rfl rfl (by rw [hP]; exact Try.func9) rfl (by decide) (wakes_F hP)) rfl rfl rfl ?_ | refine LOps.whenC (LVal.call rfl rfl (by rw [hP]; exact Try.func20) rfl (by decide) (ahead_F hP kTwo (by decide) 1 2)) ?_ | refine LOps.whenC (LVal.call rfl rfl (by rw [hP]; exact Try.func9) rfl (by decide) (wakes_F hP)) ?_ | refine LOps.valA ?_ | refine LOps.outA ?_ | refine LOps.whenA ?_ | refine LOps.pickA ?_ | refine LOps.storeA ?_)
  exact ⟨_, LRes.one rfl, isTrue _ (by decide +kernel)⟩
end Go.Proofs.Ytmdfjojohfhcgaa.LF

namespace Go.Proofs.Ytmdfjojohfhcgaa
open Go.RowKit LF
theorem historyKnown_walk (W : World) : Calls Try.prog 7 #[] W fun e W' => e = .returned (.bool true) ∧ Below W.heap.size W W' :=
  law_calls (fun G S h => known_L h S) .nil
end Go.Proofs.Ytmdfjojohfhcgaa
