/- The walk of MleafReads. (Printed by gen_reads.py.) -/
import Derived.Test.YtgkjhlmfgaaddaaLMfi
import Derived.Test.YtgkjhlmfgaaddaaLMn
set_option linter.unusedVariables false
set_option linter.unusedSimpArgs false
namespace Go.Proofs.Ytgkjhlmfgaaddaa.LF
open Go.RowKit
set_option linter.unusedVariables false


set_option maxHeartbeats 32000000 in
set_option maxRecDepth 20000 in
theorem reads_L {G : Ctx} (hP : G.P = Try.prog) (l : LeafV) (hl : l.ok) (i : Int) (m : MarkV) (hm : m.ok) (S : LS) : LCalls G 4 [.agg (leafL l), .one (iv i), .agg (markL m)] (fun r _ => r = .one (bv true)) S := by
  have hD : TabOK G.P D := by rw [hP]; exact hD0
  have eb : EqTy G.P D 28 := by rw [hP]; exact eqSlot
  have ec : EqTy G.P D 42 := by rw [hP]; exact eqRSlot
  have c1 := leaf_F hP l
  have c2 := refRight_L hP l hl
  have c3 := awake_F hP
  have c4 := right_L hP l hl
  have c5 := covers_F hP l m
  have c6 := mark_F hP m
  have c7 := refCovers_F hP l m hl.high hm
  have c8 := len_L hP l hl.p
  have c9 := full_L hP l hl.p
  have c10 := find_L hP l hl m
  have c11 := refFind_L hP l hl m hm
  have c12 := at_L hP l hl i
  have c13 := refUse_F hP l hl
  refine LCalls.enter (fn := Try.f4) (by rw [hP]; exact Try.func4) rfl rfl ?_
  repeat (first | refine LOps.nil ?_ | refine andThen_normal ?_ | refine andThen_exit ?_ | refine andThen_ret ?_ | refine inBlock_normal ?_ | refine inBlock_ret ?_ | refine inBlock_here ?_ | refine inBlock_out rfl ?_ | refine LWp.seq ?_ | refine LWp.region ?_ | refine LWp.block ?_ | refine LWp.exit ?_ | refine LWp.ret ?_ | refine LWp.skip ?_ | refine LOps.valA ?_ | refine LOps.outA ?_ | refine LOps.whenA ?_ | refine LOps.pickA ?_ | refine LOps.storeA ?_)
  have hle := LS.le.refl S
  refine LOps.do (LDo.box rfl rfl) rfl rfl rfl ?_
  rintro _ _ ⟨b3, hb3, rfl, rfl⟩
  have s3 := hle.none hb3
  refine LOps.gen (fun S' => S.le S' ∧ S'.box b3 = some (leafL l)) ⟨hle.newBox hb3 _, box_new _ _ _⟩ ?_
  clear hle hb3 
  rintro S3 ⟨hle, k3⟩
  repeat (first | refine LOps.nil ?_ | refine andThen_normal ?_ | refine andThen_exit ?_ | refine andThen_ret ?_ | refine inBlock_normal ?_ | refine inBlock_ret ?_ | refine inBlock_here ?_ | refine inBlock_out rfl ?_ | refine LWp.seq ?_ | refine LWp.region ?_ | refine LWp.block ?_ | refine LWp.exit ?_ | refine LWp.ret ?_ | refine LWp.skip ?_ | refine LOps.valA ?_ | refine LOps.outA ?_ | refine LOps.whenA ?_ | refine LOps.pickA ?_ | refine LOps.storeA ?_)
  skip
  refine LOps.do (LDo.box rfl rfl) rfl rfl rfl ?_
  rintro _ _ ⟨b5, hb5, rfl, rfl⟩
  have n3_5 := fresh_ne hb5 k3
  have m5_3 := n3_5.symm
  have s5 := hle.none hb5
  refine LOps.gen (fun S' => S.le S' ∧ S'.box b3 = some (leafL l) ∧ S'.box b5 = some (markL m)) ⟨hle.newBox hb5 _, (box_new_ne _ _ n3_5).trans k3, box_new _ _ _⟩ ?_
  clear hle hb5 k3
  rintro S5 ⟨hle, k3, k5⟩

  repeat (first | refine LOps.valH (LVal.load hD rfl rfl k3 rfl (rdLeaf l)) ?_ | refine LOps.nil ?_ | refine andThen_normal ?_ | refine andThen_exit ?_ | refine andThen_ret ?_ | refine inBlock_normal ?_ | refine inBlock_ret ?_ | refine inBlock_here ?_ | refine inBlock_out rfl ?_ | refine LWp.seq ?_ | refine LWp.region ?_ | refine LWp.block ?_ | refine LWp.exit ?_ | refine LWp.ret ?_ | refine LWp.skip ?_ | refine LOps.val (LVal.call rfl rfl (by rw [hP]; exact Try.func19) rfl (by decide) (c1)) rfl rfl rfl ?_ | refine LOps.whenC (LVal.call rfl rfl (by rw [hP]; exact Try.func19) rfl (by decide) (c1)) ?_ | refine LOps.valA ?_ | refine LOps.outA ?_ | refine LOps.whenA ?_ | refine LOps.pickA ?_ | refine LOps.storeA ?_)
  skip
  refine LOps.do (LDo.alloc hD rfl rfl rfl) rfl rfl rfl ?_
  rintro _ _ ⟨b7, hb7, rfl, rfl⟩
  have n3_7 := fresh_ne hb7 k3
  have m7_3 := n3_7.symm
  have n5_7 := fresh_ne hb7 k5
  have m7_5 := n5_7.symm
  have s7 := hle.none hb7
  refine LOps.gen (fun S' => S.le S' ∧ S'.box b3 = some (leafL l) ∧ S'.box b5 = some (markL m) ∧ S'.box b7 = some (leafL noLeaf)) ⟨hle.newBox hb7 _, (box_new_ne _ _ n3_7).trans k3, (box_new_ne _ _ n5_7).trans k5, (box_new _ _ _).trans (congrArg some zeroLeaf')⟩ ?_
  clear hle hb7 k3 k5
  rintro S7 ⟨hle, k3, k5, k7⟩
  repeat (first | refine LOps.storeA (b := b7) (off := 0) (cs := leafL noLeaf) (l := leafL l) ?_ | refine LOps.nil ?_ | refine andThen_normal ?_ | refine andThen_exit ?_ | refine andThen_ret ?_ | refine inBlock_normal ?_ | refine inBlock_ret ?_ | refine inBlock_here ?_ | refine inBlock_out rfl ?_ | refine LWp.seq ?_ | refine LWp.region ?_ | refine LWp.block ?_ | refine LWp.exit ?_ | refine LWp.ret ?_ | refine LWp.skip ?_ | refine LOps.valA ?_ | refine LOps.outA ?_ | refine LOps.whenA ?_ | refine LOps.pickA ?_ | refine LOps.storeA ?_)
  refine LOps.gen (fun S' => S.le S' ∧ S'.box b3 = some (leafL l) ∧ S'.box b5 = some (markL m) ∧ S'.box b7 = some (leafL l)) ⟨hle.setBox s7 _, (box_set_ne _ _ n3_7).trans k3, (box_set_ne _ _ n5_7).trans k5, (box_set _ _ _).trans (congrArg some (stLeaf _ _))⟩ ?_
  clear hle k3 k5 k7
  rintro S2 ⟨hle, k3, k5, k7⟩
  repeat (first | refine LOps.valH (LVal.load hD rfl rfl k7 rfl (rdLeaf l)) ?_ | refine LOps.nil ?_ | refine andThen_normal ?_ | refine andThen_exit ?_ | refine andThen_ret ?_ | refine inBlock_normal ?_ | refine inBlock_ret ?_ | refine inBlock_here ?_ | refine inBlock_out rfl ?_ | refine LWp.seq ?_ | refine LWp.region ?_ | refine LWp.block ?_ | refine LWp.exit ?_ | refine LWp.ret ?_ | refine LWp.skip ?_ | refine LOps.val (LVal.call rfl rfl (by rw [hP]; exact Try.func20) rfl (by decide) (c2)) rfl rfl rfl ?_ | refine LOps.whenC (LVal.call rfl rfl (by rw [hP]; exact Try.func20) rfl (by decide) (c2)) ?_ | refine LOps.valA ?_ | refine LOps.outA ?_ | refine LOps.whenA ?_ | refine LOps.pickA ?_ | refine LOps.storeA ?_)
  refine LWp.drawL [0, 1, 2, 3, 4, 5, 6, 7, 8, 9, 10, 11, 12, 13, 14, 15, 16, 17, 18, 19, 20, 21, 22, 23, 24, 25, 26, 27, 28, 29, 30, 31, 32, 33, 34, 35] (by rw [hP]; rfl) rfl ?_
  repeat (first | refine LRl.val (fun _ _ => (LVal.call rfl rfl (by rw [hP]; exact Try.func19) rfl (by decide) (c1))) rfl rfl rfl ?_ | refine LRl.val (fun _ _ => (LVal.call rfl rfl (by rw [hP]; exact Try.func20) rfl (by decide) (c2))) rfl rfl rfl ?_ | refine LRl.val (fun _ _ => (LVal.call rfl rfl (by rw [hP]; exact Try.func11) rfl (by decide) (c3))) rfl rfl rfl ?_ | refine LRl.val (fun _ _ => (LVal.call rfl rfl (by rw [hP]; exact Try.func12) rfl (by decide) (c4))) rfl rfl rfl ?_ | refine LRl.val (fun _ _ => (LVal.call rfl rfl (by rw [hP]; exact Try.func14) rfl (by decide) (c5))) rfl rfl rfl ?_ | refine LRl.val (fun _ _ => (LVal.call rfl rfl (by rw [hP]; exact Try.func22) rfl (by decide) (c6))) rfl rfl rfl ?_ | refine LRl.val (fun _ _ => (LVal.call rfl rfl (by rw [hP]; exact Try.func21) rfl (by decide) (c7))) rfl rfl rfl ?_ | refine LRl.val (fun _ _ => (LVal.call rfl rfl (by rw [hP]; exact Try.func15) rfl (by decide) (c8))) rfl rfl rfl ?_ | refine LRl.val (fun _ _ => (LVal.call rfl rfl (by rw [hP]; exact Try.func23) rfl (by decide) (c9))) rfl rfl rfl ?_ | refine LRl.valH (LVal.load hD rfl rfl k3 rfl (rdLeaf l)) ?_ (fun _ hS => LVal.load hD rfl rfl (hS.box _ _ k3 (by first | exact id | (intro hx; rcases hx with hx | hx <;> omega) | (intro hx; have hx2 : _ = _ := hx; omega))) rfl (rdLeaf l)) | refine LRl.valH (LVal.load hD rfl rfl k7 rfl (rdLeaf l)) ?_ (fun _ hS => LVal.load hD rfl rfl (hS.box _ _ k7 (by first | exact id | (intro hx; rcases hx with hx | hx <;> omega) | (intro hx; have hx2 : _ = _ := hx; omega))) rfl (rdLeaf l)) | refine LRl.valH (LVal.load hD rfl rfl k3 rfl (rdPerm l)) ?_ (fun _ hS => LVal.load hD rfl rfl (hS.box _ _ k3 (by first | exact id | (intro hx; rcases hx with hx | hx <;> omega) | (intro hx; have hx2 : _ = _ := hx; omega))) rfl (rdPerm l)) | refine LRl.valH (LVal.to (LVal.binOp hD rfl rfl rfl rfl) (r' := .one (bv false)) (congrArg (fun b => TV.one (bv b)) (bne_self_eq_false _))) ?_ (fun _ hS => LVal.to (LVal.binOp hD rfl rfl rfl rfl) (r' := .one (bv false)) (congrArg (fun b => TV.one (bv b)) (bne_self_eq_false _))) | refine LRl.valH (LVal.to (LVal.binOp hD rfl rfl rfl rfl) (r' := .one (bv false)) (congrArg (fun b => TV.one (bv b)) (by rw [bne_eq_false_iff_eq]; exact decide_eq_decide.2 (by omega)))) ?_ (fun _ hS => LVal.to (LVal.binOp hD rfl rfl rfl rfl) (r' := .one (bv false)) (congrArg (fun b => TV.one (bv b)) (by rw [bne_eq_false_iff_eq]; exact decide_eq_decide.2 (by omega)))) | refine LRl.val (fun _ _ => LVal.to (LVal.binOp hD rfl rfl rfl rfl) (r' := .one (.v (.bool true))) (congrArg (fun b => TV.one (.v (.bool b))) (by first | exact decide_eq_true (by omega) | (rw [beq_iff_eq]; omega) | (rw [bne_iff_ne]; omega)))) rfl rfl rfl ?_ | refine LRl.val (fun _ _ => LVal.to (LVal.binOp hD rfl rfl rfl rfl) (r' := .one (.v (.bool false))) (congrArg (fun b => TV.one (.v (.bool b))) (by first | exact decide_eq_false (by omega) | (rw [beq_eq_false_iff_ne]; omega) | (rw [bne_eq_false_iff_eq]; omega)))) rfl rfl rfl ?_ | refine LRl.valW ?_ | refine LRl.valC (fun _ => (LVal.call rfl rfl (by rw [hP]; exact Try.func19) rfl (by decide) (c1))) ?_ | refine LRl.valC (fun _ => (LVal.call rfl rfl (by rw [hP]; exact Try.func20) rfl (by decide) (c2))) ?_ | refine LRl.valC (fun _ => (LVal.call rfl rfl (by rw [hP]; exact Try.func11) rfl (by decide) (c3))) ?_ | refine LRl.valC (fun _ => (LVal.call rfl rfl (by rw [hP]; exact Try.func12) rfl (by decide) (c4))) ?_ | refine LRl.valC (fun _ => (LVal.call rfl rfl (by rw [hP]; exact Try.func14) rfl (by decide) (c5))) ?_ | refine LRl.valC (fun _ => (LVal.call rfl rfl (by rw [hP]; exact Try.func22) rfl (by decide) (c6))) ?_ | refine LRl.valC (fun _ => (LVal.call rfl rfl (by rw [hP]; exact Try.func21) rfl (by decide) (c7))) ?_ | refine LRl.valC (fun _ => (LVal.call rfl rfl (by rw [hP]; exact Try.func15) rfl (by decide) (c8))) ?_ | refine LRl.valC (fun _ => (LVal.call rfl rfl (by rw [hP]; exact Try.func23) rfl (by decide) (c9))) ?_ | refine LRl.whenC (fun _ => (LVal.call rfl rfl (by rw [hP]; exact Try.func19) rfl (by decide) (c1))) ?_ | refine LRl.whenC (fun _ => (LVal.call rfl rfl (by rw [hP]; exact Try.func20) rfl (by decide) (c2))) ?_ | refine LRl.whenC (fun _ => (LVal.call rfl rfl (by rw [hP]; exact Try.func11) rfl (by decide) (c3))) ?_ | refine LRl.whenC (fun _ => (LVal.call rfl rfl (by rw [hP]; exact Try.func12) rfl (by decide) (c4))) ?_ | refine LRl.whenC (fun _ => (LVal.call rfl rfl (by rw [hP]; exact Try.func14) rfl (by decide) (c5))) ?_ | refine LRl.whenC (fun _ => (LVal.call rfl rfl (by rw [hP]; exact Try.func22) rfl (by decide) (c6))) ?_ | refine LRl.whenC (fun _ => (LVal.call rfl rfl (by rw [hP]; exact Try.func21) rfl (by decide) (c7))) ?_ | refine LRl.whenC (fun _ => (LVal.call rfl rfl (by rw [hP]; exact Try.func15) rfl (by decide) (c8))) ?_ | refine LRl.whenC (fun _ => (LVal.call rfl rfl (by rw [hP]; exact Try.func23) rfl (by decide) (c9))) ?_ | refine LRl.nil ?_ | refine LRl.valA ?_ | refine LRl.outA ?_ | refine LRl.whenA ?_ | refine LRl.pickA ?_)
  repeat (first | refine LOps.valH (LVal.load hD rfl rfl k3 rfl (rdLeaf l)) ?_ | refine LWp.condF rfl ?_ | refine LOps.nil ?_ | refine andThen_normal ?_ | refine andThen_exit ?_ | refine andThen_ret ?_ | refine inBlock_normal ?_ | refine inBlock_ret ?_ | refine inBlock_here ?_ | refine inBlock_out rfl ?_ | refine LWp.seq ?_ | refine LWp.region ?_ | refine LWp.block ?_ | refine LWp.exit ?_ | refine LWp.ret ?_ | refine LWp.skip ?_ | refine LOps.val (LVal.call rfl rfl (by rw [hP]; exact Try.func24) rfl (by decide) (c10)) rfl rfl rfl ?_ | refine LOps.whenC (LVal.call rfl rfl (by rw [hP]; exact Try.func24) rfl (by decide) (c10)) ?_ | refine LOps.valA ?_ | refine LOps.outA ?_ | refine LOps.whenA ?_ | refine LOps.pickA ?_ | refine LOps.storeA ?_)
  refine LWp.drawL [0, 1, 2, 3, 4, 5, 6, 7, 8] (by rw [hP]; rfl) rfl ?_
  repeat (first | refine LRl.valH (LVal.load hD rfl rfl k7 rfl (rdLeaf l)) ?_ (fun _ hS => LVal.load hD rfl rfl (hS.box _ _ k7 (by first | exact id | (intro hx; rcases hx with hx | hx <;> omega) | (intro hx; have hx2 : _ = _ := hx; omega))) rfl (rdLeaf l)) | refine LRl.valC (fun _ => (LVal.call rfl rfl (by rw [hP]; exact Try.func22) rfl (by decide) (c6))) ?_ | refine LRl.valC (fun _ => (LVal.call rfl rfl (by rw [hP]; exact Try.func25) rfl (by decide) (c11))) ?_ | refine LRl.whenC (fun _ => (LVal.call rfl rfl (by rw [hP]; exact Try.func22) rfl (by decide) (c6))) ?_ | refine LRl.whenC (fun _ => (LVal.call rfl rfl (by rw [hP]; exact Try.func25) rfl (by decide) (c11))) ?_ | refine LRl.nil ?_ | refine LRl.valA ?_ | refine LRl.outA ?_ | refine LRl.whenA ?_ | refine LRl.pickA ?_)
  cases hr : rightL l with
  | false =>
    have e : atL l i = (noSlot, false) := by unfold atL; rw [if_neg (fun h0 => by rw [hr] at h0; cases h0.2.2)]
    rw [e] at c12
    repeat (first | refine LOps.valH (LVal.load hD rfl rfl k3 rfl (rdLeaf l)) ?_ | refine LOps.nil ?_ | refine andThen_normal ?_ | refine andThen_exit ?_ | refine andThen_ret ?_ | refine inBlock_normal ?_ | refine inBlock_ret ?_ | refine inBlock_here ?_ | refine inBlock_out rfl ?_ | refine LWp.seq ?_ | refine LWp.region ?_ | refine LWp.block ?_ | refine LWp.exit ?_ | refine LWp.ret ?_ | refine LWp.skip ?_ | refine LOps.val (LVal.call rfl rfl (by rw [hP]; exact Try.func17) rfl (by decide) (c12)) rfl rfl rfl ?_ | refine LOps.whenC (LVal.call rfl rfl (by rw [hP]; exact Try.func17) rfl (by decide) (c12)) ?_ | refine LOps.valA ?_ | refine LOps.outA ?_ | refine LOps.whenA ?_ | refine LOps.pickA ?_ | refine LOps.storeA ?_)
    refine LOps.do (LDo.alloc hD rfl rfl rfl) rfl rfl rfl ?_
    rintro _ _ ⟨b13, hb13, rfl, rfl⟩
    have n7_13 := fresh_ne hb13 k7
    have s13 := hle.none hb13
    refine LOps.gen (fun S' => S.le S' ∧ S'.box b7 = some (leafL l) ∧ S'.box b13 = some (slotL noSlot)) ⟨hle.newBox hb13 _, (box_new_ne _ _ n7_13).trans k7, box_new _ _ _⟩ ?_
    clear hle k3 k5 k7 hb13
    rintro S9 ⟨hle, k7, k13⟩
    repeat (first | refine LOps.nil ?_ | refine andThen_normal ?_ | refine andThen_exit ?_ | refine andThen_ret ?_ | refine inBlock_normal ?_ | refine inBlock_ret ?_ | refine inBlock_here ?_ | refine inBlock_out rfl ?_ | refine LWp.seq ?_ | refine LWp.region ?_ | refine LWp.block ?_ | refine LWp.exit ?_ | refine LWp.ret ?_ | refine LWp.skip ?_ | refine LOps.valA ?_ | refine LOps.outA ?_ | refine LOps.whenA ?_ | refine LOps.pickA ?_ | refine LOps.storeA ?_)
    refine LOps.gen (fun S' => S.le S' ∧ S'.box b7 = some (leafL l) ∧ S'.box b13 = some (slotL noSlot)) ⟨hle.setBox s13 _, (box_set_ne _ _ n7_13).trans k7, box_set _ _ _⟩ ?_
    clear hle k7 k13
    rintro S10 ⟨hle, k7, k13⟩
    repeat (first | refine LOps.valH (LVal.call rfl rfl (by rw [hP]; exact Try.func26) rfl (by decide) (c13)) ?_ | refine LOps.valH (LVal.load hD rfl rfl k7 rfl (rdLeaf l)) ?_ | refine LOps.valH (LVal.to (LVal.binOp hD rfl rfl rfl rfl) (r' := .one (bv false)) (congrArg (fun b => TV.one (bv b)) (bne_self_eq_false _))) ?_ | refine LOps.valH (LVal.to (LVal.neqAgg hD rfl rfl rfl rfl rfl eb rfl) (r' := .one (bv false)) rfl) ?_ | refine LWp.condF rfl ?_ | refine LOps.valH (LVal.to (LVal.binOp hD rfl rfl rfl rfl) (r' := .one (.v (.bool true))) (congrArg (fun b => TV.one (.v (.bool b))) (by first | exact decide_eq_true (by omega) | (rw [beq_iff_eq]; omega) | (rw [bne_iff_ne]; omega)))) ?_ | refine LOps.valH (LVal.to (LVal.binOp hD rfl rfl rfl rfl) (r' := .one (.v (.bool false))) (congrArg (fun b => TV.one (.v (.bool b))) (by first | exact decide_eq_false (by omega) | (rw [beq_eq_false_iff_ne]; omega) | (rw [bne_eq_false_iff_eq]; omega)))) ?_ | refine LOps.valW ?_ | refine LOps.nil ?_ | refine andThen_normal ?_ | refine andThen_exit ?_ | refine andThen_ret ?_ | refine inBlock_normal ?_ | refine inBlock_ret ?_ | refine inBlock_here ?_ | refine inBlock_out rfl ?_ | refine LWp.seq ?_ | refine LWp.region ?_ | refine LWp.block ?_ | refine LWp.exit ?_ | refine LWp.ret ?_ | refine LWp.skip ?_ | refine LOps.val (LVal.call rfl rfl (by rw [hP]; exact Try.func26) rfl (by decide) (c13)) rfl rfl rfl ?_ | refine LOps.whenC (LVal.call rfl rfl (by rw [hP]; exact Try.func26) rfl (by decide) (c13)) ?_ | refine LOps.valA ?_ | refine LOps.outA ?_ | refine LOps.whenA ?_ | refine LOps.pickA ?_ | refine LOps.storeA ?_)
    refine LWp.drawL [0, 1, 2, 3, 4, 5, 6, 7, 8, 9, 10, 11] (by rw [hP]; rfl) rfl ?_
    repeat (first | refine LRl.val (fun _ _ => LVal.to (LVal.binOp hD rfl rfl rfl rfl) (r' := .one (.v (.bool true))) (congrArg (fun b => TV.one (.v (.bool b))) (by first | exact decide_eq_true (by omega) | (rw [beq_iff_eq]; omega) | (rw [bne_iff_ne]; omega)))) rfl rfl rfl ?_ | refine LRl.val (fun _ _ => LVal.to (LVal.binOp hD rfl rfl rfl rfl) (r' := .one (.v (.bool false))) (congrArg (fun b => TV.one (.v (.bool b))) (by first | exact decide_eq_false (by omega) | (rw [beq_eq_false_iff_ne]; omega) | (rw [bne_eq_false_iff_eq]; omega)))) rfl rfl rfl ?_ | refine LRl.valW ?_ | refine LRl.nil ?_ | refine LRl.valA ?_ | refine LRl.outA ?_ | refine LRl.whenA ?_ | refine LRl.pickA ?_)
    repeat (first | refine LOps.nil ?_ | refine andThen_normal ?_ | refine andThen_exit ?_ | refine andThen_ret ?_ | refine inBlock_normal ?_ | refine inBlock_ret ?_ | refine inBlock_here ?_ | refine inBlock_out rfl ?_ | refine LWp.seq ?_ | refine LWp.region ?_ | refine LWp.block ?_ | refine LWp.exit ?_ | refine LWp.ret ?_ | refine LWp.skip ?_ | refine LOps.valA ?_ | refine LOps.outA ?_ | refine LOps.whenA ?_ | refine LOps.pickA ?_ | refine LOps.storeA ?_)
    exact ⟨_, LRes.one rfl, rfl⟩
  | true =>
    have hf := (fit_iff l).1 hr
    have hu : usesL l = useOf l (l.p % 16) := by unfold usesL usedN; rw [rt_yes hf.rt]; rfl
    have hln := useOf_len l (l.p % 16)
    have hls : (sList (useOf l (l.p % 16))).length = l.p % 16 := by rw [List.length_map, hln]
    rw [hu] at c13
    skip
    rcases (by omega : i < 0 ∨ (0 ≤ i ∧ ¬ i < ((l.p % 16 : Nat) : Int)) ∨ (0 ≤ i ∧ i < ((l.p % 16 : Nat) : Int))) with h | h | h
    · have e : atL l i = (noSlot, false) := by unfold atL; rw [if_neg (fun h0 => by omega)]
      rw [e] at c12
      repeat (first | refine LOps.valH (LVal.load hD rfl rfl k3 rfl (rdLeaf l)) ?_ | refine LOps.nil ?_ | refine andThen_normal ?_ | refine andThen_exit ?_ | refine andThen_ret ?_ | refine inBlock_normal ?_ | refine inBlock_ret ?_ | refine inBlock_here ?_ | refine inBlock_out rfl ?_ | refine LWp.seq ?_ | refine LWp.region ?_ | refine LWp.block ?_ | refine LWp.exit ?_ | refine LWp.ret ?_ | refine LWp.skip ?_ | refine LOps.val (LVal.call rfl rfl (by rw [hP]; exact Try.func17) rfl (by decide) (c12)) rfl rfl rfl ?_ | refine LOps.whenC (LVal.call rfl rfl (by rw [hP]; exact Try.func17) rfl (by decide) (c12)) ?_ | refine LOps.valA ?_ | refine LOps.outA ?_ | refine LOps.whenA ?_ | refine LOps.pickA ?_ | refine LOps.storeA ?_)
      refine LOps.do (LDo.alloc hD rfl rfl rfl) rfl rfl rfl ?_
      rintro _ _ ⟨b13, hb13, rfl, rfl⟩
      have n7_13 := fresh_ne hb13 k7
      have s13 := hle.none hb13
      refine LOps.gen (fun S' => S.le S' ∧ S'.box b7 = some (leafL l) ∧ S'.box b13 = some (slotL noSlot)) ⟨hle.newBox hb13 _, (box_new_ne _ _ n7_13).trans k7, box_new _ _ _⟩ ?_
      clear hle k3 k5 k7 hb13
      rintro S9 ⟨hle, k7, k13⟩
      repeat (first | refine LOps.nil ?_ | refine andThen_normal ?_ | refine andThen_exit ?_ | refine andThen_ret ?_ | refine inBlock_normal ?_ | refine inBlock_ret ?_ | refine inBlock_here ?_ | refine inBlock_out rfl ?_ | refine LWp.seq ?_ | refine LWp.region ?_ | refine LWp.block ?_ | refine LWp.exit ?_ | refine LWp.ret ?_ | refine LWp.skip ?_ | refine LOps.valA ?_ | refine LOps.outA ?_ | refine LOps.whenA ?_ | refine LOps.pickA ?_ | refine LOps.storeA ?_)
      refine LOps.gen (fun S' => S.le S' ∧ S'.box b7 = some (leafL l) ∧ S'.box b13 = some (slotL noSlot)) ⟨hle.setBox s13 _, (box_set_ne _ _ n7_13).trans k7, box_set _ _ _⟩ ?_
      clear hle k7 k13
      rintro S10 ⟨hle, k7, k13⟩
      repeat (first | refine LOps.valH (LVal.call rfl rfl (by rw [hP]; exact Try.func26) rfl (by decide) (c13)) ?_ | refine LOps.valH (LVal.load hD rfl rfl k7 rfl (rdLeaf l)) ?_ | refine LOps.valH (LVal.to (LVal.binOp hD rfl rfl rfl rfl) (r' := .one (bv false)) (congrArg (fun b => TV.one (bv b)) (bne_self_eq_false _))) ?_ | refine LOps.valH (LVal.to (LVal.neqAgg hD rfl rfl rfl rfl rfl eb rfl) (r' := .one (bv false)) rfl) ?_ | refine LWp.condF rfl ?_ | refine LOps.valH (LVal.to (LVal.binOp hD rfl rfl rfl rfl) (r' := .one (.v (.bool true))) (congrArg (fun b => TV.one (.v (.bool b))) (by first | exact decide_eq_true (by omega) | (rw [beq_iff_eq]; omega) | (rw [bne_iff_ne]; omega)))) ?_ | refine LOps.valH (LVal.to (LVal.binOp hD rfl rfl rfl rfl) (r' := .one (.v (.bool false))) (congrArg (fun b => TV.one (.v (.bool b))) (by first | exact decide_eq_false (by omega) | (rw [beq_eq_false_iff_ne]; omega) | (rw [bne_eq_false_iff_eq]; omega)))) ?_ | refine LOps.valW ?_ | refine LOps.nil ?_ | refine andThen_normal ?_ | refine andThen_exit ?_ | refine andThen_ret ?_ | refine inBlock_normal ?_ | refine inBlock_ret ?_ | refine inBlock_here ?_ | refine inBlock_out rfl ?_ | refine LWp.seq ?_ | refine LWp.region ?_ | refine LWp.block ?_ | refine LWp.exit ?_ | refine LWp.ret ?_ | refine LWp.skip ?_ | refine LOps.val (LVal.call rfl rfl (by rw [hP]; exact Try.func26) rfl (by decide) (c13)) rfl rfl rfl ?_ | refine LOps.whenC (LVal.call rfl rfl (by rw [hP]; exact Try.func26) rfl (by decide) (c13)) ?_ | refine LOps.valA ?_ | refine LOps.outA ?_ | refine LOps.whenA ?_ | refine LOps.pickA ?_ | refine LOps.storeA ?_)
      refine LWp.drawL [0, 1, 2, 3, 4, 5, 6, 7, 8, 9, 10, 11] (by rw [hP]; rfl) rfl ?_
      repeat (first | refine LRl.val (fun _ _ => LVal.to (LVal.binOp hD rfl rfl rfl rfl) (r' := .one (.v (.bool true))) (congrArg (fun b => TV.one (.v (.bool b))) (by first | exact decide_eq_true (by omega) | (rw [beq_iff_eq]; omega) | (rw [bne_iff_ne]; omega)))) rfl rfl rfl ?_ | refine LRl.val (fun _ _ => LVal.to (LVal.binOp hD rfl rfl rfl rfl) (r' := .one (.v (.bool false))) (congrArg (fun b => TV.one (.v (.bool b))) (by first | exact decide_eq_false (by omega) | (rw [beq_eq_false_iff_ne]; omega) | (rw [bne_eq_false_iff_eq]; omega)))) rfl rfl rfl ?_ | refine LRl.valW ?_ | refine LRl.nil ?_ | refine LRl.valA ?_ | refine LRl.outA ?_ | refine LRl.whenA ?_ | refine LRl.pickA ?_)
      repeat (first | refine LOps.nil ?_ | refine andThen_normal ?_ | refine andThen_exit ?_ | refine andThen_ret ?_ | refine inBlock_normal ?_ | refine inBlock_ret ?_ | refine inBlock_here ?_ | refine inBlock_out rfl ?_ | refine LWp.seq ?_ | refine LWp.region ?_ | refine LWp.block ?_ | refine LWp.exit ?_ | refine LWp.ret ?_ | refine LWp.skip ?_ | refine LOps.valA ?_ | refine LOps.outA ?_ | refine LOps.whenA ?_ | refine LOps.pickA ?_ | refine LOps.storeA ?_)
      exact ⟨_, LRes.one rfl, rfl⟩
    · have e : atL l i = (noSlot, false) := by unfold atL; rw [if_neg (fun h0 => by omega)]
      rw [e] at c12
      repeat (first | refine LOps.valH (LVal.load hD rfl rfl k3 rfl (rdLeaf l)) ?_ | refine LOps.nil ?_ | refine andThen_normal ?_ | refine andThen_exit ?_ | refine andThen_ret ?_ | refine inBlock_normal ?_ | refine inBlock_ret ?_ | refine inBlock_here ?_ | refine inBlock_out rfl ?_ | refine LWp.seq ?_ | refine LWp.region ?_ | refine LWp.block ?_ | refine LWp.exit ?_ | refine LWp.ret ?_ | refine LWp.skip ?_ | refine LOps.val (LVal.call rfl rfl (by rw [hP]; exact Try.func17) rfl (by decide) (c12)) rfl rfl rfl ?_ | refine LOps.whenC (LVal.call rfl rfl (by rw [hP]; exact Try.func17) rfl (by decide) (c12)) ?_ | refine LOps.valA ?_ | refine LOps.outA ?_ | refine LOps.whenA ?_ | refine LOps.pickA ?_ | refine LOps.storeA ?_)
      refine LOps.do (LDo.alloc hD rfl rfl rfl) rfl rfl rfl ?_
      rintro _ _ ⟨b13, hb13, rfl, rfl⟩
      have n7_13 := fresh_ne hb13 k7
      have s13 := hle.none hb13
      refine LOps.gen (fun S' => S.le S' ∧ S'.box b7 = some (leafL l) ∧ S'.box b13 = some (slotL noSlot)) ⟨hle.newBox hb13 _, (box_new_ne _ _ n7_13).trans k7, box_new _ _ _⟩ ?_
      clear hle k3 k5 k7 hb13
      rintro S9 ⟨hle, k7, k13⟩
      repeat (first | refine LOps.nil ?_ | refine andThen_normal ?_ | refine andThen_exit ?_ | refine andThen_ret ?_ | refine inBlock_normal ?_ | refine inBlock_ret ?_ | refine inBlock_here ?_ | refine inBlock_out rfl ?_ | refine LWp.seq ?_ | refine LWp.region ?_ | refine LWp.block ?_ | refine LWp.exit ?_ | refine LWp.ret ?_ | refine LWp.skip ?_ | refine LOps.valA ?_ | refine LOps.outA ?_ | refine LOps.whenA ?_ | refine LOps.pickA ?_ | refine LOps.storeA ?_)
      refine LOps.gen (fun S' => S.le S' ∧ S'.box b7 = some (leafL l) ∧ S'.box b13 = some (slotL noSlot)) ⟨hle.setBox s13 _, (box_set_ne _ _ n7_13).trans k7, box_set _ _ _⟩ ?_
      clear hle k7 k13
      rintro S10 ⟨hle, k7, k13⟩
      repeat (first | refine LOps.valH (LVal.call rfl rfl (by rw [hP]; exact Try.func26) rfl (by decide) (c13)) ?_ | refine LOps.valH (LVal.load hD rfl rfl k7 rfl (rdLeaf l)) ?_ | refine LOps.valH (LVal.to (LVal.binOp hD rfl rfl rfl rfl) (r' := .one (bv false)) (congrArg (fun b => TV.one (bv b)) (bne_self_eq_false _))) ?_ | refine LOps.valH (LVal.to (LVal.neqAgg hD rfl rfl rfl rfl rfl eb rfl) (r' := .one (bv false)) rfl) ?_ | refine LWp.condF rfl ?_ | refine LOps.valH (LVal.to (LVal.binOp hD rfl rfl rfl rfl) (r' := .one (.v (.bool true))) (congrArg (fun b => TV.one (.v (.bool b))) (by first | exact decide_eq_true (by omega) | (rw [beq_iff_eq]; omega) | (rw [bne_iff_ne]; omega)))) ?_ | refine LOps.valH (LVal.to (LVal.binOp hD rfl rfl rfl rfl) (r' := .one (.v (.bool false))) (congrArg (fun b => TV.one (.v (.bool b))) (by first | exact decide_eq_false (by omega) | (rw [beq_eq_false_iff_ne]; omega) | (rw [bne_eq_false_iff_eq]; omega)))) ?_ | refine LOps.valW ?_ | refine LOps.nil ?_ | refine andThen_normal ?_ | refine andThen_exit ?_ | refine andThen_ret ?_ | refine inBlock_normal ?_ | refine inBlock_ret ?_ | refine inBlock_here ?_ | refine inBlock_out rfl ?_ | refine LWp.seq ?_ | refine LWp.region ?_ | refine LWp.block ?_ | refine LWp.exit ?_ | refine LWp.ret ?_ | refine LWp.skip ?_ | refine LOps.val (LVal.call rfl rfl (by rw [hP]; exact Try.func26) rfl (by decide) (c13)) rfl rfl rfl ?_ | refine LOps.whenC (LVal.call rfl rfl (by rw [hP]; exact Try.func26) rfl (by decide) (c13)) ?_ | refine LOps.valA ?_ | refine LOps.outA ?_ | refine LOps.whenA ?_ | refine LOps.pickA ?_ | refine LOps.storeA ?_)
      refine LWp.drawL [0, 1, 2, 3, 4, 5, 6, 7, 8, 9, 10, 11] (by rw [hP]; rfl) rfl ?_
      repeat (first | refine LRl.val (fun _ _ => LVal.to (LVal.binOp hD rfl rfl rfl rfl) (r' := .one (.v (.bool true))) (congrArg (fun b => TV.one (.v (.bool b))) (by first | exact decide_eq_true (by omega) | (rw [beq_iff_eq]; omega) | (rw [bne_iff_ne]; omega)))) rfl rfl rfl ?_ | refine LRl.val (fun _ _ => LVal.to (LVal.binOp hD rfl rfl rfl rfl) (r' := .one (.v (.bool false))) (congrArg (fun b => TV.one (.v (.bool b))) (by first | exact decide_eq_false (by omega) | (rw [beq_eq_false_iff_ne]; omega) | (rw [bne_eq_false_iff_eq]; omega)))) rfl rfl rfl ?_ | refine LRl.valW ?_ | refine LRl.nil ?_ | refine LRl.valA ?_ | refine LRl.outA ?_ | refine LRl.whenA ?_ | refine LRl.pickA ?_)
      repeat (first | refine LOps.nil ?_ | refine andThen_normal ?_ | refine andThen_exit ?_ | refine andThen_ret ?_ | refine inBlock_normal ?_ | refine inBlock_ret ?_ | refine inBlock_here ?_ | refine inBlock_out rfl ?_ | refine LWp.seq ?_ | refine LWp.region ?_ | refine LWp.block ?_ | refine LWp.exit ?_ | refine LWp.ret ?_ | refine LWp.skip ?_ | refine LOps.valA ?_ | refine LOps.outA ?_ | refine LOps.whenA ?_ | refine LOps.pickA ?_ | refine LOps.storeA ?_)
      exact ⟨_, LRes.one rfl, rfl⟩
    · have e : atL l i = (l.rank i.toNat, true) := by unfold atL; rw [if_pos ⟨h.1, h.2, hr⟩]
      rw [e] at c12
      obtain ⟨k, rfl⟩ : ∃ k : Nat, i = k := ⟨i.toNat, by omega⟩
      have hUk := useOf_get l (n := l.p % 16) (j := k) (by omega)
      rw [Int.toNat_natCast] at c12
      have c14 := one_S hP (l.rank k)
      generalize l.rank k = sl at *
      repeat (first | refine LOps.valH (LVal.load hD rfl rfl k3 rfl (rdLeaf l)) ?_ | refine LOps.nil ?_ | refine andThen_normal ?_ | refine andThen_exit ?_ | refine andThen_ret ?_ | refine inBlock_normal ?_ | refine inBlock_ret ?_ | refine inBlock_here ?_ | refine inBlock_out rfl ?_ | refine LWp.seq ?_ | refine LWp.region ?_ | refine LWp.block ?_ | refine LWp.exit ?_ | refine LWp.ret ?_ | refine LWp.skip ?_ | refine LOps.val (LVal.call rfl rfl (by rw [hP]; exact Try.func17) rfl (by decide) (c12)) rfl rfl rfl ?_ | refine LOps.whenC (LVal.call rfl rfl (by rw [hP]; exact Try.func17) rfl (by decide) (c12)) ?_ | refine LOps.valA ?_ | refine LOps.outA ?_ | refine LOps.whenA ?_ | refine LOps.pickA ?_ | refine LOps.storeA ?_)
      refine LOps.do (LDo.alloc hD rfl rfl rfl) rfl rfl rfl ?_
      rintro _ _ ⟨b13, hb13, rfl, rfl⟩
      have n7_13 := fresh_ne hb13 k7
      have s13 := hle.none hb13
      refine LOps.gen (fun S' => S.le S' ∧ S'.box b7 = some (leafL l) ∧ S'.box b13 = some (slotL noSlot)) ⟨hle.newBox hb13 _, (box_new_ne _ _ n7_13).trans k7, box_new _ _ _⟩ ?_
      clear hle k3 k5 k7 hb13
      rintro S9 ⟨hle, k7, k13⟩
      repeat (first | refine LOps.nil ?_ | refine andThen_normal ?_ | refine andThen_exit ?_ | refine andThen_ret ?_ | refine inBlock_normal ?_ | refine inBlock_ret ?_ | refine inBlock_here ?_ | refine inBlock_out rfl ?_ | refine LWp.seq ?_ | refine LWp.region ?_ | refine LWp.block ?_ | refine LWp.exit ?_ | refine LWp.ret ?_ | refine LWp.skip ?_ | refine LOps.valA ?_ | refine LOps.outA ?_ | refine LOps.whenA ?_ | refine LOps.pickA ?_ | refine LOps.storeA ?_)
      refine LOps.gen (fun S' => S.le S' ∧ S'.box b7 = some (leafL l) ∧ S'.box b13 = some (slotL sl)) ⟨hle.setBox s13 _, (box_set_ne _ _ n7_13).trans k7, box_set _ _ _⟩ ?_
      clear hle k7 k13
      rintro S10 ⟨hle, k7, k13⟩
      repeat (first | refine LOps.valH (LVal.call rfl rfl (by rw [hP]; exact Try.func26) rfl (by decide) (c13)) ?_ | refine LOps.valH (LVal.load hD rfl rfl k7 rfl (rdLeaf l)) ?_ | refine LOps.valH (LVal.to (LVal.binOp hD rfl rfl rfl rfl) (r' := .one (bv false)) (congrArg (fun b => TV.one (bv b)) (bne_self_eq_false _))) ?_ | refine LOps.valH (LVal.to (LVal.neqAgg hD rfl rfl rfl rfl rfl eb rfl) (r' := .one (bv false)) rfl) ?_ | refine LWp.condF rfl ?_ | refine LOps.valH (LVal.to (LVal.binOp hD rfl rfl rfl rfl) (r' := .one (.v (.bool true))) (congrArg (fun b => TV.one (.v (.bool b))) (by first | exact decide_eq_true (by omega) | (rw [beq_iff_eq]; omega) | (rw [bne_iff_ne]; omega)))) ?_ | refine LOps.valH (LVal.to (LVal.binOp hD rfl rfl rfl rfl) (r' := .one (.v (.bool false))) (congrArg (fun b => TV.one (.v (.bool b))) (by first | exact decide_eq_false (by omega) | (rw [beq_eq_false_iff_ne]; omega) | (rw [bne_eq_false_iff_eq]; omega)))) ?_ | refine LOps.valW ?_ | refine LOps.nil ?_ | refine andThen_normal ?_ | refine andThen_exit ?_ | refine andThen_ret ?_ | refine inBlock_normal ?_ | refine inBlock_ret ?_ | refine inBlock_here ?_ | refine inBlock_out rfl ?_ | refine LWp.seq ?_ | refine LWp.region ?_ | refine LWp.block ?_ | refine LWp.exit ?_ | refine LWp.ret ?_ | refine LWp.skip ?_ | refine LOps.val (LVal.call rfl rfl (by rw [hP]; exact Try.func26) rfl (by decide) (c13)) rfl rfl rfl ?_ | refine LOps.whenC (LVal.call rfl rfl (by rw [hP]; exact Try.func26) rfl (by decide) (c13)) ?_ | refine LOps.valA ?_ | refine LOps.outA ?_ | refine LOps.whenA ?_ | refine LOps.pickA ?_ | refine LOps.storeA ?_)
      refine LWp.drawL [0, 1, 2, 3, 4, 5, 6, 7, 8, 9, 10, 11] (by rw [hP]; rfl) rfl ?_
      repeat (first | refine LRl.val (fun _ _ => (LVal.call rfl rfl (by rw [hP]; exact Try.func27) rfl (by decide) (c14))) rfl rfl rfl ?_ | refine LRl.valH (LVal.to (LVal.eqAgg hD rfl rfl rfl rfl rfl ec rfl) (r' := .one (bv true)) (by exact congrArg (fun b => TV.one (bv b)) (slot_self sl))) ?_ (fun _ hS => LVal.to (LVal.eqAgg hD rfl rfl rfl rfl rfl ec rfl) (r' := .one (bv true)) (by exact congrArg (fun b => TV.one (bv b)) (slot_self sl))) | refine LRl.val (fun _ _ => LVal.indexLit hD rfl rfl rfl (n := k) rfl rfl rfl rfl hUk rfl) rfl rfl rfl ?_ | refine LRl.val (fun _ _ => LVal.to (LVal.binOp hD rfl rfl rfl rfl) (r' := .one (.v (.bool true))) (congrArg (fun b => TV.one (.v (.bool b))) (by first | exact decide_eq_true (by omega) | (rw [beq_iff_eq]; omega) | (rw [bne_iff_ne]; omega)))) rfl rfl rfl ?_ | refine LRl.val (fun _ _ => LVal.to (LVal.binOp hD rfl rfl rfl rfl) (r' := .one (.v (.bool false))) (congrArg (fun b => TV.one (.v (.bool b))) (by first | exact decide_eq_false (by omega) | (rw [beq_eq_false_iff_ne]; omega) | (rw [bne_eq_false_iff_eq]; omega)))) rfl rfl rfl ?_ | refine LRl.valW ?_ | refine LRl.valC (fun _ => (LVal.call rfl rfl (by rw [hP]; exact Try.func27) rfl (by decide) (c14))) ?_ | refine LRl.whenC (fun _ => (LVal.call rfl rfl (by rw [hP]; exact Try.func27) rfl (by decide) (c14))) ?_ | refine LRl.nil ?_ | refine LRl.valA ?_ | refine LRl.outA ?_ | refine LRl.whenA ?_ | refine LRl.pickA ?_)
      repeat (first | refine LOps.nil ?_ | refine andThen_normal ?_ | refine andThen_exit ?_ | refine andThen_ret ?_ | refine inBlock_normal ?_ | refine inBlock_ret ?_ | refine inBlock_here ?_ | refine inBlock_out rfl ?_ | refine LWp.seq ?_ | refine LWp.region ?_ | refine LWp.block ?_ | refine LWp.exit ?_ | refine LWp.ret ?_ | refine LWp.skip ?_ | refine LOps.valA ?_ | refine LOps.outA ?_ | refine LOps.whenA ?_ | refine LOps.pickA ?_ | refine LOps.storeA ?_)
      exact ⟨_, LRes.one rfl, rfl⟩
end Go.Proofs.Ytgkjhlmfgaaddaa.LF

namespace Go.Proofs.Ytgkjhlmfgaaddaa
open Go.RowKit LF
theorem mleafReads_walk (W : World) (v0 : Value) (l0 : List LV) (y0 : Typed LF.D 31 l0) (g0 : RepT (G0 Try.prog W) W (allCells W) (argTV ti31 l0) v0) (v1 : Value) (l1 : List LV) (y1 : Typed LF.D 3 l1) (g1 : RepT (G0 Try.prog W) W (allCells W) (argTV ti3 l1) v1) (v2 : Value) (l2 : List LV) (y2 : Typed LF.D 24 l2) (g2 : RepT (G0 Try.prog W) W (allCells W) (argTV ti24 l2) v2) :
    Calls Try.prog 4 #[v0, v1, v2] W fun e W' => e = .returned (.bool true) ∧ Below W.heap.size W W' := by
  obtain ⟨l, rfl, hl⟩ := typed_leaf y0
  obtain ⟨i, rfl, _⟩ := typed_int rfl rfl y1
  obtain ⟨m, rfl, hm⟩ := typed_mark y2
  exact law_calls (fun G S h => reads_L h l hl i m hm S) (.cons (vs := [v1, v2]) g0 (.cons (vs := [v2]) g1 (.cons (vs := []) g2 .nil)))
end Go.Proofs.Ytgkjhlmfgaaddaa
