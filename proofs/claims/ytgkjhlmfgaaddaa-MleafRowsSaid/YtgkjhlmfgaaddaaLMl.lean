/- Leaves: Delete. -/
import Derived.Test.YtgkjhlmfgaaddaaLMk
set_option linter.unusedVariables false
set_option linter.unusedSimpArgs false
namespace Go.Proofs.Ytgkjhlmfgaaddaa.LF
open Go.RowKit
set_option linter.unusedVariables false

set_option maxHeartbeats 16000000 in
theorem delLeaf_L {G : Ctx} (hP : G.P = Try.prog) (l : LeafV) (hl : l.ok) (m : MarkV) : LFun G 37 [.agg (leafL l), .agg (markL m)] (.tup [.agg (leafL (delL l m).1), .agg (slotL (delL l m).2.1), .one (bv (delL l m).2.2)]) := LFun.of fun S => by
  have hD : TabOK G.P D := by rw [hP]; exact hD0
  have c4 := find_L hP l hl m
  have t1 : TIok G.P 31 ti31 := hP ▸ tok31
  have t2 : TIok G.P 28 ti28 := hP ▸ tok28
  refine LCalls.enter (fn := Try.f37) (by rw [hP]; exact Try.func37) rfl rfl ?_
  repeat (first | refine LOps.nil ?_ | refine andThen_normal ?_ | refine andThen_exit ?_ | refine andThen_ret ?_ | refine inBlock_normal ?_ | refine inBlock_ret ?_ | refine inBlock_here ?_ | refine inBlock_out rfl ?_ | refine LWp.seq ?_ | refine LWp.region ?_ | refine LWp.block ?_ | refine LWp.exit ?_ | refine LWp.ret ?_ | refine LWp.skip ?_ | refine LOps.valA ?_ | refine LOps.outA ?_ | refine LOps.whenA ?_ | refine LOps.pickA ?_ | refine LOps.storeA ?_)
  have hle := LS.le.refl S
  refine LOps.do (LDo.box rfl rfl) rfl rfl rfl ?_
  rintro _ _ ⟨b2, hb2, rfl, rfl⟩
  have s2 := hle.none hb2
  refine LOps.gen (fun S' => S.le S' ∧ S'.box b2 = some (leafL l)) ⟨hle.newBox hb2 _, box_new _ _ _⟩ ?_
  clear hle hb2 
  rintro S2 ⟨hle, k2⟩
  repeat (first | refine LOps.nil ?_ | refine andThen_normal ?_ | refine andThen_exit ?_ | refine andThen_ret ?_ | refine inBlock_normal ?_ | refine inBlock_ret ?_ | refine inBlock_here ?_ | refine inBlock_out rfl ?_ | refine LWp.seq ?_ | refine LWp.region ?_ | refine LWp.block ?_ | refine LWp.exit ?_ | refine LWp.ret ?_ | refine LWp.skip ?_ | refine LOps.valA ?_ | refine LOps.outA ?_ | refine LOps.whenA ?_ | refine LOps.pickA ?_ | refine LOps.storeA ?_)
  skip
  refine LOps.do (LDo.box rfl rfl) rfl rfl rfl ?_
  rintro _ _ ⟨b3, hb3, rfl, rfl⟩
  have n2_3 := fresh_ne hb3 k2
  have m3_2 := n2_3.symm
  have s3 := hle.none hb3
  refine LOps.gen (fun S' => S.le S' ∧ S'.box b2 = some (leafL l) ∧ S'.box b3 = some (markL m)) ⟨hle.newBox hb3 _, (box_new_ne _ _ n2_3).trans k2, box_new _ _ _⟩ ?_
  clear hle hb3 k2
  rintro S3 ⟨hle, k2, k3⟩
  repeat (first | refine LOps.nil ?_ | refine andThen_normal ?_ | refine andThen_exit ?_ | refine andThen_ret ?_ | refine inBlock_normal ?_ | refine inBlock_ret ?_ | refine inBlock_here ?_ | refine inBlock_out rfl ?_ | refine LWp.seq ?_ | refine LWp.region ?_ | refine LWp.block ?_ | refine LWp.exit ?_ | refine LWp.ret ?_ | refine LWp.skip ?_ | refine LOps.valA ?_ | refine LOps.outA ?_ | refine LOps.whenA ?_ | refine LOps.pickA ?_ | refine LOps.storeA ?_)
  skip
  refine LOps.do (LDo.alloc hD rfl rfl rfl) rfl rfl rfl ?_
  rintro _ _ ⟨b4, hb4, rfl, rfl⟩
  have n2_4 := fresh_ne hb4 k2
  have m4_2 := n2_4.symm
  have n3_4 := fresh_ne hb4 k3
  have m4_3 := n3_4.symm
  have s4 := hle.none hb4
  refine LOps.gen (fun S' => S.le S' ∧ S'.box b2 = some (leafL l) ∧ S'.box b3 = some (markL m) ∧ S'.box b4 = some (leafL noLeaf)) ⟨hle.newBox hb4 _, (box_new_ne _ _ n2_4).trans k2, (box_new_ne _ _ n3_4).trans k3, (box_new _ _ _).trans (congrArg some zeroLeaf)⟩ ?_
  clear hle hb4 k2 k3
  rintro S4 ⟨hle, k2, k3, k4⟩
  repeat (first | refine LOps.nil ?_ | refine andThen_normal ?_ | refine andThen_exit ?_ | refine andThen_ret ?_ | refine inBlock_normal ?_ | refine inBlock_ret ?_ | refine inBlock_here ?_ | refine inBlock_out rfl ?_ | refine LWp.seq ?_ | refine LWp.region ?_ | refine LWp.block ?_ | refine LWp.exit ?_ | refine LWp.ret ?_ | refine LWp.skip ?_ | refine LOps.valA ?_ | refine LOps.outA ?_ | refine LOps.whenA ?_ | refine LOps.pickA ?_ | refine LOps.storeA ?_)
  skip
  refine LOps.do (LDo.alloc hD rfl rfl rfl) rfl rfl rfl ?_
  rintro _ _ ⟨b5, hb5, rfl, rfl⟩
  have n2_5 := fresh_ne hb5 k2
  have m5_2 := n2_5.symm
  have n3_5 := fresh_ne hb5 k3
  have m5_3 := n3_5.symm
  have n4_5 := fresh_ne hb5 k4
  have m5_4 := n4_5.symm
  have s5 := hle.none hb5
  refine LOps.gen (fun S' => S.le S' ∧ S'.box b2 = some (leafL l) ∧ S'.box b3 = some (markL m) ∧ S'.box b4 = some (leafL noLeaf) ∧ S'.box b5 = some (slotL noSlot)) ⟨hle.newBox hb5 _, (box_new_ne _ _ n2_5).trans k2, (box_new_ne _ _ n3_5).trans k3, (box_new_ne _ _ n4_5).trans k4, box_new _ _ _⟩ ?_
  clear hle hb5 k2 k3 k4
  rintro S5 ⟨hle, k2, k3, k4, k5⟩
  cases hf : (findL l m).2 with
  | false =>
    have e0 : delL l m = (l, noSlot, false) := by unfold delL; rw [if_neg (by rw [hf]; decide)]
    rw [e0]
    rw [hf] at c4
    repeat (first | refine LOps.valH (LVal.call rfl rfl (by rw [hP]; exact Try.func24) rfl (by decide) (c4)) ?_ | refine LOps.valH (LVal.load hD rfl rfl k2 rfl (rdLeaf l)) ?_ | refine LWp.condT rfl ?_ | refine LOps.storeA (b := b4) (off := 0) (cs := leafL noLeaf) (l := leafL _) ?_ | refine LOps.valH (LVal.to (LVal.binOp hD rfl rfl rfl rfl) (r' := .one (.v (.bool true))) (congrArg (fun b => TV.one (.v (.bool b))) (by first | exact decide_eq_true (by omega) | (rw [beq_iff_eq]; omega) | (rw [bne_iff_ne]; omega)))) ?_ | refine LOps.valH (LVal.to (LVal.binOp hD rfl rfl rfl rfl) (r' := .one (.v (.bool false))) (congrArg (fun b => TV.one (.v (.bool b))) (by first | exact decide_eq_false (by omega) | (rw [beq_eq_false_iff_ne]; omega) | (rw [bne_eq_false_iff_eq]; omega)))) ?_ | refine LOps.valW ?_ | refine LOps.nil ?_ | refine andThen_normal ?_ | refine andThen_exit ?_ | refine andThen_ret ?_ | refine inBlock_normal ?_ | refine inBlock_ret ?_ | refine inBlock_here ?_ | refine inBlock_out rfl ?_ | refine LWp.seq ?_ | refine LWp.region ?_ | refine LWp.block ?_ | refine LWp.exit ?_ | refine LWp.ret ?_ | refine LWp.skip ?_ | refine LOps.val (LVal.call rfl rfl (by rw [hP]; exact Try.func24) rfl (by decide) (c4)) rfl rfl rfl ?_ | refine LOps.whenC (LVal.call rfl rfl (by rw [hP]; exact Try.func24) rfl (by decide) (c4)) ?_ | refine LOps.valA ?_ | refine LOps.outA ?_ | refine LOps.whenA ?_ | refine LOps.pickA ?_ | refine LOps.storeA ?_)
    exact ⟨_, putRes rfl t1 rfl rfl t2 rfl rfl rfl ((box_set_ne _ _ n4_5).trans ((box_set _ _ _).trans (congrArg some (stLeaf _ _)))) rfl (box_set _ _ _) rfl rfl, rfl, (hle.setBox s4 _).setBox s5 _⟩
  | true =>
    obtain ⟨hr, hlt⟩ := findL_yes hf
    have e0 : delL l m = (LeafV.up { l with p := remW l.p (findL l m).1 } (nib l.p (findL l m).1) noSlot, l.rank (findL l m).1, true) := by unfold delL; rw [if_pos hf]
    rw [e0]
    have hrt := rightL_rt hr
    have hn15 := rt_le hrt
    obtain ⟨k, hk⟩ : ∃ k, (findL l m).1 = k := ⟨_, rfl⟩
    rw [hf, hk] at c4
    rw [hk] at hlt ⊢
    have hn := nib_low hrt (show k < 15 by omega)
    have hrem : LFun G 56 [.one (.v (.int .u64 l.p)), .one (iv (k : Nat))] (yesR (remW l.p k) (nib l.p k)) := by
      have := rem_F hP l.p (k : Nat) hl.p
      unfold remR at this
      rwa [if_pos ⟨hrt, by omega, by omega⟩, Int.toNat_natCast] at this
    repeat (first | refine LOps.valH (LVal.call rfl rfl (by rw [hP]; exact Try.func24) rfl (by decide) (c4)) ?_ | refine LOps.valH (LVal.call rfl rfl (by rw [hP]; exact Try.func56) rfl (by decide) (hrem)) ?_ | refine LOps.valH (LVal.load hD rfl rfl k2 rfl (rdLeaf l)) ?_ | refine LWp.condF rfl ?_ | refine LOps.valH (LVal.load hD rfl rfl k2 rfl (rdPerm l)) ?_ | refine LOps.valH (LVal.indexP hD rfl rfl rfl rfl rfl rfl hn) ?_ | refine LOps.valH (LVal.load hD rfl rfl k2 rfl (rdSlot l hn)) ?_ | refine LOps.valH (LVal.to (LVal.binOp hD rfl rfl rfl rfl) (r' := .one (.v (.bool true))) (congrArg (fun b => TV.one (.v (.bool b))) (by first | exact decide_eq_true (by omega) | (rw [beq_iff_eq]; omega) | (rw [bne_iff_ne]; omega)))) ?_ | refine LOps.valH (LVal.to (LVal.binOp hD rfl rfl rfl rfl) (r' := .one (.v (.bool false))) (congrArg (fun b => TV.one (.v (.bool b))) (by first | exact decide_eq_false (by omega) | (rw [beq_eq_false_iff_ne]; omega) | (rw [bne_eq_false_iff_eq]; omega)))) ?_ | refine LOps.valW ?_ | refine LOps.nil ?_ | refine andThen_normal ?_ | refine andThen_exit ?_ | refine andThen_ret ?_ | refine inBlock_normal ?_ | refine inBlock_ret ?_ | refine inBlock_here ?_ | refine inBlock_out rfl ?_ | refine LWp.seq ?_ | refine LWp.region ?_ | refine LWp.block ?_ | refine LWp.exit ?_ | refine LWp.ret ?_ | refine LWp.skip ?_ | refine LOps.val (LVal.call rfl rfl (by rw [hP]; exact Try.func24) rfl (by decide) (c4)) rfl rfl rfl ?_ | refine LOps.val (LVal.call rfl rfl (by rw [hP]; exact Try.func56) rfl (by decide) (hrem)) rfl rfl rfl ?_ | refine LOps.whenC (LVal.call rfl rfl (by rw [hP]; exact Try.func24) rfl (by decide) (c4)) ?_ | refine LOps.whenC (LVal.call rfl rfl (by rw [hP]; exact Try.func56) rfl (by decide) (hrem)) ?_ | refine LOps.valA ?_ | refine LOps.outA ?_ | refine LOps.whenA ?_ | refine LOps.pickA ?_ | refine LOps.storeA ?_)
    refine LOps.gen (fun S' => S.le S' ∧ S'.box b2 = some (leafL { l with p := remW l.p k }) ∧ S'.box b4 = some (leafL noLeaf) ∧ S'.box b5 = some (slotL (l.rank k))) ⟨(hle.setBox s5 _).setBox s2 _, (box_set _ _ _).trans (congrArg some (stPerm _ _)), (box_set_ne _ _ m4_2).trans ((box_set_ne _ _ n4_5).trans k4), (box_set_ne _ _ m5_2).trans (box_set _ _ _)⟩ ?_
    clear hle k2 k3 k4 k5
    rintro S6 ⟨hle, k2, k4, k5⟩
    refine LOps.do0 (LDo.storeSlot (s := noSlot) hD rfl rfl k2 rfl rfl rfl hn) rfl rfl ?_
    rintro _ _ ⟨rfl, rfl⟩
    refine LOps.gen (fun S' => S.le S' ∧ S'.box b2 = some (leafL (LeafV.up { l with p := remW l.p k } (nib l.p k) noSlot)) ∧ S'.box b4 = some (leafL noLeaf) ∧ S'.box b5 = some (slotL (l.rank k))) ⟨hle.setBox s2 _, box_set _ _ _, (box_set_ne _ _ m4_2).trans k4, (box_set_ne _ _ m5_2).trans k5⟩ ?_
    clear hle k2 k4 k5
    rintro S7 ⟨hle, k2, k4, k5⟩
    repeat (first | refine LOps.nil ?_ | refine andThen_normal ?_ | refine andThen_exit ?_ | refine andThen_ret ?_ | refine inBlock_normal ?_ | refine inBlock_ret ?_ | refine inBlock_here ?_ | refine inBlock_out rfl ?_ | refine LWp.seq ?_ | refine LWp.region ?_ | refine LWp.block ?_ | refine LWp.exit ?_ | refine LWp.ret ?_ | refine LWp.skip ?_ | refine LOps.valA ?_ | refine LOps.outA ?_ | refine LOps.whenA ?_ | refine LOps.pickA ?_ | refine LOps.storeA ?_)
    refine LWp.drawX (fun b => b = b4) [0, 1, 2, 3, 4] (by rw [hP]; rfl) rfl ?_
    repeat (first | refine LRl.valH (LVal.load hD rfl rfl k2 rfl (rdLeaf _)) ?_ (fun _ hS => LVal.load hD rfl rfl (hS.box _ _ k2 (by first | exact id | (intro hx; rcases hx with hx | hx <;> omega) | (intro hx; have hx2 : _ = _ := hx; omega))) rfl (rdLeaf _)) | refine LRl.nil ?_ | refine LRl.valA ?_ | refine LRl.outA ?_ | refine LRl.whenA ?_ | refine LRl.pickA ?_)
    refine LRl.act0 (LDo.store hD rfl rfl k4 rfl rfl rfl rfl) rfl rfl rfl (by rintro _ _ ⟨rfl, rfl⟩; exact .inl (LS.leX.setBox (X := fun b => b = b4) rfl _)) ?_
    rintro _ _ ⟨rfl, rfl⟩
    refine LRl.act0 (LDo.store hD rfl rfl ((box_set_ne _ _ m5_4).trans k5) rfl rfl rfl rfl) rfl rfl rfl (fun _ _ _ => .inr rfl) ?_
    rintro _ _ ⟨rfl, rfl⟩
    repeat (first | refine LRl.nil ?_ | refine LRl.valA ?_ | refine LRl.outA ?_ | refine LRl.whenA ?_ | refine LRl.pickA ?_)
    repeat (first | refine LOps.nil ?_ | refine andThen_normal ?_ | refine andThen_exit ?_ | refine andThen_ret ?_ | refine inBlock_normal ?_ | refine inBlock_ret ?_ | refine inBlock_here ?_ | refine inBlock_out rfl ?_ | refine LWp.seq ?_ | refine LWp.region ?_ | refine LWp.block ?_ | refine LWp.exit ?_ | refine LWp.ret ?_ | refine LWp.skip ?_ | refine LOps.valA ?_ | refine LOps.outA ?_ | refine LOps.whenA ?_ | refine LOps.pickA ?_ | refine LOps.storeA ?_)
    exact ⟨_, putRes rfl t1 rfl rfl t2 rfl rfl rfl ((box_set_ne _ _ n4_5).trans ((box_set _ _ _).trans (congrArg some (stLeaf _ _)))) rfl (box_set _ _ _) rfl rfl, rfl, (hle.setBox s4 _).setBox s5 _⟩
end Go.Proofs.Ytgkjhlmfgaaddaa.LF
