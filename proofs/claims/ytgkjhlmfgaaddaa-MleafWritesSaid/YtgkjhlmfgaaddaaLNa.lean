/- The document's Put and Delete of a leaf. (Printed by gen_refput.py.) -/
import Derived.Test.YtgkjhlmfgaaddaaLMfi
set_option linter.unusedVariables false
set_option linter.unusedSimpArgs false
namespace Go.Proofs.Ytgkjhlmfgaaddaa.LF
open Go.RowKit
set_option linter.unusedVariables false

theorem ofR_use {p : Nat} (h : Rt (slots p)) : ∃ U F : List Nat, ofR p = .tup [.agg [.sl .sh (iList U), .sl .sh (iList F)], .one (.v (.bool true))] ∧ ∀ k, k < p % 16 → U[k]? = some (nib p k) := by
  obtain ⟨U, F, h1, _, h3⟩ := ofR_form p
  rw [rt_yes h] at h1
  exact ⟨U, F, h1, fun k hk => h3 k (by unfold usedN; rw [rt_yes h]; exact hk)⟩

set_option maxHeartbeats 32000000 in
set_option maxRecDepth 20000 in
theorem refPut_L {G : Ctx} (hP : G.P = Try.prog) (l : LeafV) (hl : l.ok) (s : SlotV) (hs : s.m.ok) : LFun G 40 [.agg (leafL l), .agg (slotL s)] (.tup [.agg (leafL (putL l s).1), .agg (slotL (putL l s).2.1), .one (bv (putL l s).2.2)]) := LFun.of fun S => by
  have hD : TabOK G.P D := by rw [hP]; exact hD0
  have c1 := refRight_L hP l hl
  have c2 := refRight_S hP s hs
  have c3 := refCovers_F hP l s.m hl.high hs
  have c4 := refFind_L hP l hl s.m hs
  have c5 := of_F hP l.p hl.p
  have t1 : TIok G.P 45 ti45 := hP ▸ tok45
  have t2 : TIok G.P 42 ti42 := hP ▸ tok42
  refine LCalls.enter (fn := Try.f40) (by rw [hP]; exact Try.func40) rfl rfl ?_
  repeat (first | refine LOps.nil ?_ | refine andThen_normal ?_ | refine andThen_exit ?_ | refine andThen_ret ?_ | refine inBlock_normal ?_ | refine inBlock_ret ?_ | refine inBlock_here ?_ | refine inBlock_out rfl ?_ | refine LWp.seq ?_ | refine LWp.region ?_ | refine LWp.block ?_ | refine LWp.exit ?_ | refine LWp.ret ?_ | refine LWp.skip ?_ | refine LOps.valA ?_ | refine LOps.outA ?_ | refine LOps.whenA ?_ | refine LOps.pickA ?_ | refine LOps.storeA ?_)
  have hle := LS.le.refl S
  refine LOps.do (LDo.box rfl rfl) rfl rfl rfl ?_
  rintro _ _ ⟨b2, hb2, rfl, rfl⟩
  have s2 := hle.none hb2
  refine LOps.gen (fun S' => S.le S' ∧ S'.box b2 = some (leafL l)) ⟨hle.newBox hb2 _, box_new _ _ _⟩ ?_
  clear hle hb2 
  rintro S2 ⟨hle, k2⟩
  skip
  refine LOps.do (LDo.box rfl rfl) rfl rfl rfl ?_
  rintro _ _ ⟨b3, hb3, rfl, rfl⟩
  have n2_3 := fresh_ne hb3 k2
  have m3_2 := n2_3.symm
  have s3 := hle.none hb3
  refine LOps.gen (fun S' => S.le S' ∧ S'.box b2 = some (leafL l) ∧ S'.box b3 = some (slotL s)) ⟨hle.newBox hb3 _, (box_new_ne _ _ n2_3).trans k2, box_new _ _ _⟩ ?_
  clear hle hb3 k2
  rintro S3 ⟨hle, k2, k3⟩
  skip
  refine LOps.do (LDo.alloc hD rfl rfl rfl) rfl rfl rfl ?_
  rintro _ _ ⟨b4, hb4, rfl, rfl⟩
  have n2_4 := fresh_ne hb4 k2
  have m4_2 := n2_4.symm
  have n3_4 := fresh_ne hb4 k3
  have m4_3 := n3_4.symm
  have s4 := hle.none hb4
  refine LOps.gen (fun S' => S.le S' ∧ S'.box b2 = some (leafL l) ∧ S'.box b3 = some (slotL s) ∧ S'.box b4 = some (leafL noLeaf)) ⟨hle.newBox hb4 _, (box_new_ne _ _ n2_4).trans k2, (box_new_ne _ _ n3_4).trans k3, (box_new _ _ _).trans (congrArg some zeroLeaf')⟩ ?_
  clear hle hb4 k2 k3
  rintro S4 ⟨hle, k2, k3, k4⟩
  skip
  refine LOps.do (LDo.alloc hD rfl rfl rfl) rfl rfl rfl ?_
  rintro _ _ ⟨b5, hb5, rfl, rfl⟩
  have n2_5 := fresh_ne hb5 k2
  have m5_2 := n2_5.symm
  have n3_5 := fresh_ne hb5 k3
  have m5_3 := n3_5.symm
  have n4_5 := fresh_ne hb5 k4
  have m5_4 := n4_5.symm
  have s5 := hle.none hb5
  refine LOps.gen (fun S' => S.le S' ∧ S'.box b2 = some (leafL l) ∧ S'.box b3 = some (slotL s) ∧ S'.box b4 = some (leafL noLeaf) ∧ S'.box b5 = some (slotL noSlot)) ⟨hle.newBox hb5 _, (box_new_ne _ _ n2_5).trans k2, (box_new_ne _ _ n3_5).trans k3, (box_new_ne _ _ n4_5).trans k4, box_new _ _ _⟩ ?_
  clear hle hb5 k2 k3 k4
  rintro S5 ⟨hle, k2, k3, k4, k5⟩
  repeat (first | refine LOps.valH (LVal.load hD rfl rfl k2 rfl (rdLeaf l)) ?_ | refine LOps.whenC (LVal.load hD rfl rfl k2 rfl (rdLeaf l)) ?_ | refine LOps.nil ?_ | refine andThen_normal ?_ | refine andThen_exit ?_ | refine andThen_ret ?_ | refine inBlock_normal ?_ | refine inBlock_ret ?_ | refine inBlock_here ?_ | refine inBlock_out rfl ?_ | refine LWp.seq ?_ | refine LWp.region ?_ | refine LWp.block ?_ | refine LWp.exit ?_ | refine LWp.ret ?_ | refine LWp.skip ?_ | refine LOps.val (LVal.call rfl rfl (by rw [hP]; exact Try.func20) rfl (by decide) (c1)) rfl rfl rfl ?_ | refine LOps.val (LVal.call rfl rfl (by rw [hP]; exact Try.func35) rfl (by decide) (c2)) rfl rfl rfl ?_ | refine LOps.val (LVal.call rfl rfl (by rw [hP]; exact Try.func21) rfl (by decide) (c3)) rfl rfl rfl ?_ | refine LOps.whenC (LVal.call rfl rfl (by rw [hP]; exact Try.func20) rfl (by decide) (c1)) ?_ | refine LOps.whenC (LVal.call rfl rfl (by rw [hP]; exact Try.func35) rfl (by decide) (c2)) ?_ | refine LOps.whenC (LVal.call rfl rfl (by rw [hP]; exact Try.func21) rfl (by decide) (c3)) ?_ | refine LOps.valA ?_ | refine LOps.outA ?_ | refine LOps.whenA ?_ | refine LOps.pickA ?_ | refine LOps.storeA ?_)
  refine LWp.cond rfl (fun h => ?_) (fun h => ?_)
  · have h : ((!rightL l || !rightS s) || !coversL l s.m) = true := h
    have e : putL l s = (l, noSlot, false) := putL_bad (fun h0 => by rw [h0.1, h0.2.1, h0.2.2] at h; cases h)
    rw [e]
    clear h e c1 c2 c3 c4 c5
    repeat (first | refine LOps.valH (LVal.load hD rfl rfl k2 rfl (rdLeaf l)) ?_ | refine LOps.nil ?_ | refine andThen_normal ?_ | refine andThen_exit ?_ | refine andThen_ret ?_ | refine inBlock_normal ?_ | refine inBlock_ret ?_ | refine inBlock_here ?_ | refine inBlock_out rfl ?_ | refine LWp.seq ?_ | refine LWp.region ?_ | refine LWp.block ?_ | refine LWp.exit ?_ | refine LWp.ret ?_ | refine LWp.skip ?_ | refine LOps.valA ?_ | refine LOps.outA ?_ | refine LOps.whenA ?_ | refine LOps.pickA ?_)
    refine LOps.storeA (b := b4) (off := 0) (cs := leafL noLeaf) (l := leafL l) ?_
    refine LOps.gen (fun S' => S.le S' ∧ S'.box b2 = some (leafL l) ∧ S'.box b3 = some (slotL s) ∧ S'.box b4 = some (leafL l) ∧ S'.box b5 = some (slotL noSlot)) ⟨hle.setBox s4 _, (box_set_ne _ _ n2_4).trans k2, (box_set_ne _ _ n3_4).trans k3, (box_set _ _ _).trans (congrArg some (stLeaf _ _)), (box_set_ne _ _ m5_4).trans k5⟩ ?_
    clear hle k2 k3 k4 k5
    rintro Ss ⟨hle, k2, k3, k4, k5⟩
    refine LOps.storeA (b := b5) (off := 0) (cs := slotL noSlot) (l := slotL noSlot) ?_
    refine LOps.gen (fun S' => S.le S' ∧ S'.box b2 = some (leafL l) ∧ S'.box b3 = some (slotL s) ∧ S'.box b4 = some (leafL l) ∧ S'.box b5 = some (slotL noSlot)) ⟨hle.setBox s5 _, (box_set_ne _ _ n2_5).trans k2, (box_set_ne _ _ n3_5).trans k3, (box_set_ne _ _ n4_5).trans k4, (box_set _ _ _).trans (congrArg some (rfl))⟩ ?_
    clear hle k2 k3 k4 k5
    rintro Ss ⟨hle, k2, k3, k4, k5⟩
    repeat (first | refine LOps.nil ?_ | refine andThen_normal ?_ | refine andThen_exit ?_ | refine andThen_ret ?_ | refine inBlock_normal ?_ | refine inBlock_ret ?_ | refine inBlock_here ?_ | refine inBlock_out rfl ?_ | refine LWp.seq ?_ | refine LWp.region ?_ | refine LWp.block ?_ | refine LWp.exit ?_ | refine LWp.ret ?_ | refine LWp.skip ?_ | refine LOps.valA ?_ | refine LOps.outA ?_ | refine LOps.whenA ?_ | refine LOps.pickA ?_ | refine LOps.storeA ?_)
    exact ⟨_, putRes rfl t1 rfl rfl t2 rfl rfl rfl k4 rfl k5 rfl rfl, rfl, hle⟩
  have h : ((!rightL l || !rightS s) || !coversL l s.m) = false := h
  simp only [Bool.or_eq_false_iff, Bool.not_eq_false'] at h
  obtain ⟨⟨hr, hrs⟩, hc⟩ := h
  have hf := (fit_iff l).1 hr
  have hrt := rightL_rt hr
  have hn15 := hf.le
  obtain ⟨U, F, hof, hUk⟩ := ofR_use hf.rt
  rw [hof] at c5
  clear c1 c2 c3
  cases hfi : (findL l s.m).2 with
  | true =>
    obtain ⟨e0, g⟩ := putL_hit hf hrs hc hfi
    rw [e0]
    rw [hfi] at c4
    generalize (findL l s.m).1 = k at *
    have hlt := g.lt
    have hn := nib_low hrt (show k < 15 by omega)
    have hUk := hUk k hlt
    repeat (first | refine LOps.valH (LVal.load hD rfl rfl k2 rfl (rdLeaf l)) ?_ | refine LOps.valH (LVal.load hD rfl rfl k2 rfl (rdPerm l)) ?_ | refine LOps.valG (LVal.call rfl rfl (by rw [hP]; exact Try.func50) rfl (by decide) c5) rfl rfl rfl ?_ | refine LOps.nil ?_ | refine andThen_normal ?_ | refine andThen_exit ?_ | refine andThen_ret ?_ | refine inBlock_normal ?_ | refine inBlock_ret ?_ | refine inBlock_here ?_ | refine inBlock_out rfl ?_ | refine LWp.seq ?_ | refine LWp.region ?_ | refine LWp.block ?_ | refine LWp.exit ?_ | refine LWp.ret ?_ | refine LWp.skip ?_ | refine LOps.val (LVal.call rfl rfl (by rw [hP]; exact Try.func25) rfl (by decide) (c4)) rfl rfl rfl ?_ | refine LOps.whenC (LVal.call rfl rfl (by rw [hP]; exact Try.func25) rfl (by decide) (c4)) ?_ | refine LOps.valA ?_ | refine LOps.outA ?_ | refine LOps.whenA ?_ | refine LOps.pickA ?_ | refine LOps.storeA ?_)
    skip
    refine LOps.do (LDo.alloc hD rfl rfl rfl) rfl rfl rfl ?_
    rintro _ _ ⟨b9, hb9, rfl, rfl⟩
    have n2_9 := fresh_ne hb9 k2
    have m9_2 := n2_9.symm
    have n3_9 := fresh_ne hb9 k3
    have m9_3 := n3_9.symm
    have n4_9 := fresh_ne hb9 k4
    have m9_4 := n4_9.symm
    have n5_9 := fresh_ne hb9 k5
    have m9_5 := n5_9.symm
    have s9 := hle.none hb9
    refine LOps.gen (fun S' => S.le S' ∧ S'.box b2 = some (leafL l) ∧ S'.box b3 = some (slotL s) ∧ S'.box b4 = some (leafL noLeaf) ∧ S'.box b5 = some (slotL noSlot) ∧ S'.box b9 = some ([.sl .nil [], .sl .nil []])) ⟨hle.newBox hb9 _, (box_new_ne _ _ n2_9).trans k2, (box_new_ne _ _ n3_9).trans k3, (box_new_ne _ _ n4_9).trans k4, (box_new_ne _ _ n5_9).trans k5, box_new _ _ _⟩ ?_
    clear hle hb9 k2 k3 k4 k5
    rintro S9 ⟨hle, k2, k3, k4, k5, k9⟩
    refine LOps.storeA (b := b9) (off := 0) (cs := [.sl .nil [], .sl .nil []]) (l := [.sl .sh (iList U), .sl .sh (iList F)]) ?_
    refine LOps.gen (fun S' => S.le S' ∧ S'.box b2 = some (leafL l) ∧ S'.box b3 = some (slotL s) ∧ S'.box b4 = some (leafL noLeaf) ∧ S'.box b5 = some (slotL noSlot) ∧ S'.box b9 = some ([.sl .sh (iList U), .sl .sh (iList F)])) ⟨hle.setBox s9 _, (box_set_ne _ _ n2_9).trans k2, (box_set_ne _ _ n3_9).trans k3, (box_set_ne _ _ n4_9).trans k4, (box_set_ne _ _ n5_9).trans k5, (box_set _ _ _).trans (congrArg some (rfl))⟩ ?_
    clear hle k2 k3 k4 k5 k9
    rintro Ss ⟨hle, k2, k3, k4, k5, k9⟩
    repeat (first | refine LWp.condT rfl ?_ | refine LOps.val (LVal.indexLit hD rfl rfl rfl (n := k) rfl rfl rfl rfl hUk rfl) rfl rfl rfl ?_ | refine LOps.valH (LVal.indexP hD rfl rfl rfl rfl rfl rfl hn) ?_ | refine LOps.valH (LVal.load hD rfl rfl k2 rfl (rdSlot l hn)) ?_ | refine LOps.nil ?_ | refine andThen_normal ?_ | refine andThen_exit ?_ | refine andThen_ret ?_ | refine inBlock_normal ?_ | refine inBlock_ret ?_ | refine inBlock_here ?_ | refine inBlock_out rfl ?_ | refine LWp.seq ?_ | refine LWp.region ?_ | refine LWp.block ?_ | refine LWp.exit ?_ | refine LWp.ret ?_ | refine LWp.skip ?_ | refine LOps.valA ?_ | refine LOps.outA ?_ | refine LOps.whenA ?_ | refine LOps.pickA ?_ | refine LOps.storeA ?_)
    skip
    refine LOps.do (LDo.alloc hD rfl rfl rfl) rfl rfl rfl ?_
    rintro _ _ ⟨b11, hb11, rfl, rfl⟩
    have n2_11 := fresh_ne hb11 k2
    have m11_2 := n2_11.symm
    have n3_11 := fresh_ne hb11 k3
    have m11_3 := n3_11.symm
    have n4_11 := fresh_ne hb11 k4
    have m11_4 := n4_11.symm
    have n5_11 := fresh_ne hb11 k5
    have m11_5 := n5_11.symm
    have n9_11 := fresh_ne hb11 k9
    have m11_9 := n9_11.symm
    have s11 := hle.none hb11
    refine LOps.gen (fun S' => S.le S' ∧ S'.box b2 = some (leafL l) ∧ S'.box b3 = some (slotL s) ∧ S'.box b4 = some (leafL noLeaf) ∧ S'.box b5 = some (slotL noSlot) ∧ S'.box b9 = some ([.sl .sh (iList U), .sl .sh (iList F)]) ∧ S'.box b11 = some (slotL noSlot)) ⟨hle.newBox hb11 _, (box_new_ne _ _ n2_11).trans k2, (box_new_ne _ _ n3_11).trans k3, (box_new_ne _ _ n4_11).trans k4, (box_new_ne _ _ n5_11).trans k5, (box_new_ne _ _ n9_11).trans k9, box_new _ _ _⟩ ?_
    clear hle hb11 k2 k3 k4 k5 k9
    rintro S11 ⟨hle, k2, k3, k4, k5, k9, k11⟩
    repeat (first | refine LOps.nil ?_ | refine andThen_normal ?_ | refine andThen_exit ?_ | refine andThen_ret ?_ | refine inBlock_normal ?_ | refine inBlock_ret ?_ | refine inBlock_here ?_ | refine inBlock_out rfl ?_ | refine LWp.seq ?_ | refine LWp.region ?_ | refine LWp.block ?_ | refine LWp.exit ?_ | refine LWp.ret ?_ | refine LWp.skip ?_ | refine LOps.valA ?_ | refine LOps.outA ?_ | refine LOps.whenA ?_ | refine LOps.pickA ?_)
    refine LOps.storeA (b := b11) (off := 0) (cs := slotL noSlot) (l := slotL (l.rank k)) ?_
    refine LOps.gen (fun S' => S.le S' ∧ S'.box b2 = some (leafL l) ∧ S'.box b3 = some (slotL s) ∧ S'.box b4 = some (leafL noLeaf) ∧ S'.box b5 = some (slotL noSlot) ∧ S'.box b9 = some ([.sl .sh (iList U), .sl .sh (iList F)]) ∧ S'.box b11 = some (slotL (l.rank k))) ⟨hle.setBox s11 _, (box_set_ne _ _ n2_11).trans k2, (box_set_ne _ _ n3_11).trans k3, (box_set_ne _ _ n4_11).trans k4, (box_set_ne _ _ n5_11).trans k5, (box_set_ne _ _ n9_11).trans k9, (box_set _ _ _).trans (congrArg some (rfl))⟩ ?_
    clear hle k2 k3 k4 k5 k9 k11
    rintro Ss ⟨hle, k2, k3, k4, k5, k9, k11⟩
    repeat (first | refine LOps.nil ?_ | refine andThen_normal ?_ | refine andThen_exit ?_ | refine andThen_ret ?_ | refine inBlock_normal ?_ | refine inBlock_ret ?_ | refine inBlock_here ?_ | refine inBlock_out rfl ?_ | refine LWp.seq ?_ | refine LWp.region ?_ | refine LWp.block ?_ | refine LWp.exit ?_ | refine LWp.ret ?_ | refine LWp.skip ?_ | refine LOps.valA ?_ | refine LOps.outA ?_ | refine LOps.whenA ?_ | refine LOps.pickA ?_ | refine LOps.storeA ?_)
    refine LWp.drawL [0, 1, 2, 3, 4, 5, 6, 7, 8] (by rw [hP]; rfl) rfl ?_
    repeat (first | refine LRl.val (fun _ _ => LVal.indexLit hD rfl rfl rfl (n := k) rfl rfl rfl rfl hUk rfl) rfl rfl rfl ?_ | refine LRl.valH (LVal.indexP hD rfl rfl rfl rfl rfl rfl hn) ?_ (fun _ hS => LVal.indexP hD rfl rfl rfl rfl rfl rfl hn) | refine LRl.nil ?_ | refine LRl.valA ?_ | refine LRl.outA ?_ | refine LRl.whenA ?_ | refine LRl.pickA ?_)
    refine LRl.act0 (LDo.storeSlot hD rfl rfl k2 rfl rfl rfl hn) rfl rfl rfl (fun _ _ _ => .inr rfl) ?_
    rintro _ _ ⟨rfl, rfl⟩
    repeat (first | refine LRl.nil ?_ | refine LRl.valA ?_ | refine LRl.outA ?_ | refine LRl.whenA ?_ | refine LRl.pickA ?_)
    refine LWp.gen (fun S' => S.le S' ∧ S'.box b2 = some (leafL (hadL l k s)) ∧ S'.box b4 = some (leafL noLeaf) ∧ S'.box b5 = some (slotL noSlot) ∧ S'.box b11 = some (slotL (l.rank k))) ⟨hle.setBox s2 _, box_set _ _ _, (box_set_ne _ _ m4_2).trans k4, (box_set_ne _ _ m5_2).trans k5, (box_set_ne _ _ m11_2).trans k11⟩ ?_
    clear hle k2 k3 k4 k5 k9 k11
    rintro S7 ⟨hle, k2, k4, k5, k11⟩
    repeat (first | refine LOps.nil ?_ | refine andThen_normal ?_ | refine andThen_exit ?_ | refine andThen_ret ?_ | refine inBlock_normal ?_ | refine inBlock_ret ?_ | refine inBlock_here ?_ | refine inBlock_out rfl ?_ | refine LWp.seq ?_ | refine LWp.region ?_ | refine LWp.block ?_ | refine LWp.exit ?_ | refine LWp.ret ?_ | refine LWp.skip ?_ | refine LOps.valA ?_ | refine LOps.outA ?_ | refine LOps.whenA ?_ | refine LOps.pickA ?_ | refine LOps.storeA ?_)
    refine LWp.drawX (fun b => b = b4) [0, 1, 2, 3, 4] (by rw [hP]; rfl) rfl ?_
    repeat (first | refine LRl.valH (LVal.load hD rfl rfl k2 rfl (rdLeaf _)) ?_ (fun _ hS => LVal.load hD rfl rfl (hS.box _ _ k2 (by first | exact id | (intro hx; rcases hx with hx | hx <;> omega) | (intro hx; have hx2 : _ = _ := hx; omega) | (intro hx; exact absurd hx.1 (by decide)))) rfl (rdLeaf _)) | refine LRl.nil ?_ | refine LRl.valA ?_ | refine LRl.outA ?_ | refine LRl.whenA ?_ | refine LRl.pickA ?_)
    refine LRl.act0 (LDo.store hD rfl rfl k4 rfl rfl rfl rfl) rfl rfl rfl (by rintro _ _ ⟨rfl, rfl⟩; exact .inl (LS.leX.setBox (X := fun b => b = b4) rfl _)) ?_
    rintro _ _ ⟨rfl, rfl⟩
    refine LRl.act0 (LDo.store hD rfl rfl ((box_set_ne _ _ m5_4).trans k5) rfl rfl rfl rfl) rfl rfl rfl (fun _ _ _ => .inr rfl) ?_
    rintro _ _ ⟨rfl, rfl⟩
    repeat (first | refine LRl.nil ?_ | refine LRl.valA ?_ | refine LRl.outA ?_ | refine LRl.whenA ?_ | refine LRl.pickA ?_)
    repeat (first | refine LOps.nil ?_ | refine andThen_normal ?_ | refine andThen_exit ?_ | refine andThen_ret ?_ | refine inBlock_normal ?_ | refine inBlock_ret ?_ | refine inBlock_here ?_ | refine inBlock_out rfl ?_ | refine LWp.seq ?_ | refine LWp.region ?_ | refine LWp.block ?_ | refine LWp.exit ?_ | refine LWp.ret ?_ | refine LWp.skip ?_ | refine LOps.valA ?_ | refine LOps.outA ?_ | refine LOps.whenA ?_ | refine LOps.pickA ?_ | refine LOps.storeA ?_)
    exact ⟨_, putRes rfl t1 rfl rfl t2 rfl rfl rfl ((box_set_ne _ _ n4_5).trans ((box_set _ _ _).trans (congrArg some (stLeaf _ _)))) rfl (box_set _ _ _) rfl rfl, rfl, (hle.setBox s4 _).setBox s5 _⟩
  | false =>
    by_cases hful : l.p % 16 < 15
    · obtain ⟨e0, g⟩ := putL_gap hf hrs hc hfi hful
      rw [e0]
      rw [hfi] at c4
      generalize (findL l s.m).1 = k at *
      have hkn := g.le
      have hn := nib_low hrt hful
      have hins : LFun G 58 [.one (.v (.int .u64 l.p)), .one (iv (k : Nat))] (yesR (insW l.p k) (nib l.p (l.p % 16))) := by
        have := refIns_F hP l.p (k : Nat) hl.p
        unfold insR at this
        rwa [if_pos ⟨hrt, hful, by omega, by omega⟩, Int.toNat_natCast] at this
      repeat (first | refine LOps.valH (LVal.load hD rfl rfl k2 rfl (rdLeaf l)) ?_ | refine LOps.valH (LVal.load hD rfl rfl k2 rfl (rdPerm l)) ?_ | refine LOps.valG (LVal.call rfl rfl (by rw [hP]; exact Try.func50) rfl (by decide) c5) rfl rfl rfl ?_ | refine LOps.nil ?_ | refine andThen_normal ?_ | refine andThen_exit ?_ | refine andThen_ret ?_ | refine inBlock_normal ?_ | refine inBlock_ret ?_ | refine inBlock_here ?_ | refine inBlock_out rfl ?_ | refine LWp.seq ?_ | refine LWp.region ?_ | refine LWp.block ?_ | refine LWp.exit ?_ | refine LWp.ret ?_ | refine LWp.skip ?_ | refine LOps.val (LVal.call rfl rfl (by rw [hP]; exact Try.func25) rfl (by decide) (c4)) rfl rfl rfl ?_ | refine LOps.whenC (LVal.call rfl rfl (by rw [hP]; exact Try.func25) rfl (by decide) (c4)) ?_ | refine LOps.valA ?_ | refine LOps.outA ?_ | refine LOps.whenA ?_ | refine LOps.pickA ?_ | refine LOps.storeA ?_)
      skip
      refine LOps.do (LDo.alloc hD rfl rfl rfl) rfl rfl rfl ?_
      rintro _ _ ⟨b9, hb9, rfl, rfl⟩
      have n2_9 := fresh_ne hb9 k2
      have m9_2 := n2_9.symm
      have n3_9 := fresh_ne hb9 k3
      have m9_3 := n3_9.symm
      have n4_9 := fresh_ne hb9 k4
      have m9_4 := n4_9.symm
      have n5_9 := fresh_ne hb9 k5
      have m9_5 := n5_9.symm
      have s9 := hle.none hb9
      refine LOps.gen (fun S' => S.le S' ∧ S'.box b2 = some (leafL l) ∧ S'.box b3 = some (slotL s) ∧ S'.box b4 = some (leafL noLeaf) ∧ S'.box b5 = some (slotL noSlot) ∧ S'.box b9 = some ([.sl .nil [], .sl .nil []])) ⟨hle.newBox hb9 _, (box_new_ne _ _ n2_9).trans k2, (box_new_ne _ _ n3_9).trans k3, (box_new_ne _ _ n4_9).trans k4, (box_new_ne _ _ n5_9).trans k5, box_new _ _ _⟩ ?_
      clear hle hb9 k2 k3 k4 k5
      rintro S9 ⟨hle, k2, k3, k4, k5, k9⟩
      refine LOps.storeA (b := b9) (off := 0) (cs := [.sl .nil [], .sl .nil []]) (l := [.sl .sh (iList U), .sl .sh (iList F)]) ?_
      refine LOps.gen (fun S' => S.le S' ∧ S'.box b2 = some (leafL l) ∧ S'.box b3 = some (slotL s) ∧ S'.box b4 = some (leafL noLeaf) ∧ S'.box b5 = some (slotL noSlot) ∧ S'.box b9 = some ([.sl .sh (iList U), .sl .sh (iList F)])) ⟨hle.setBox s9 _, (box_set_ne _ _ n2_9).trans k2, (box_set_ne _ _ n3_9).trans k3, (box_set_ne _ _ n4_9).trans k4, (box_set_ne _ _ n5_9).trans k5, (box_set _ _ _).trans (congrArg some (rfl))⟩ ?_
      clear hle k2 k3 k4 k5 k9
      rintro Ss ⟨hle, k2, k3, k4, k5, k9⟩
      repeat (first | refine LWp.condF rfl ?_ | refine LOps.nil ?_ | refine andThen_normal ?_ | refine andThen_exit ?_ | refine andThen_ret ?_ | refine inBlock_normal ?_ | refine inBlock_ret ?_ | refine inBlock_here ?_ | refine inBlock_out rfl ?_ | refine LWp.seq ?_ | refine LWp.region ?_ | refine LWp.block ?_ | refine LWp.exit ?_ | refine LWp.ret ?_ | refine LWp.skip ?_ | refine LOps.valA ?_ | refine LOps.outA ?_ | refine LOps.whenA ?_ | refine LOps.pickA ?_ | refine LOps.storeA ?_)
      repeat (first | refine LOps.valH (LVal.load hD rfl rfl k2 rfl (rdPerm l)) ?_ | refine LWp.condT rfl ?_ | refine LOps.nil ?_ | refine andThen_normal ?_ | refine andThen_exit ?_ | refine andThen_ret ?_ | refine inBlock_normal ?_ | refine inBlock_ret ?_ | refine inBlock_here ?_ | refine inBlock_out rfl ?_ | refine LWp.seq ?_ | refine LWp.region ?_ | refine LWp.block ?_ | refine LWp.exit ?_ | refine LWp.ret ?_ | refine LWp.skip ?_ | refine LOps.val (LVal.call rfl rfl (by rw [hP]; exact Try.func58) rfl (by decide) (hins)) rfl rfl rfl ?_ | refine LOps.whenC (LVal.call rfl rfl (by rw [hP]; exact Try.func58) rfl (by decide) (hins)) ?_ | refine LOps.valA ?_ | refine LOps.outA ?_ | refine LOps.whenA ?_ | refine LOps.pickA ?_)
      refine LOps.storeA (b := b2) (off := 0) (cs := leafL l) (l := [u64 (insW l.p k : Nat)]) ?_
      refine LOps.gen (fun S' => S.le S' ∧ S'.box b2 = some (leafL { l with p := insW l.p k }) ∧ S'.box b3 = some (slotL s) ∧ S'.box b4 = some (leafL noLeaf) ∧ S'.box b5 = some (slotL noSlot) ∧ S'.box b9 = some ([.sl .sh (iList U), .sl .sh (iList F)])) ⟨hle.setBox s2 _, (box_set _ _ _).trans (congrArg some (stPerm _ _)), (box_set_ne _ _ m3_2).trans k3, (box_set_ne _ _ m4_2).trans k4, (box_set_ne _ _ m5_2).trans k5, (box_set_ne _ _ m9_2).trans k9⟩ ?_
      clear hle k2 k3 k4 k5 k9
      rintro Ss ⟨hle, k2, k3, k4, k5, k9⟩
      repeat (first | refine LOps.valH (LVal.indexP hD rfl rfl rfl rfl rfl rfl hn) ?_ | refine LOps.nil ?_ | refine andThen_normal ?_ | refine andThen_exit ?_ | refine andThen_ret ?_ | refine inBlock_normal ?_ | refine inBlock_ret ?_ | refine inBlock_here ?_ | refine inBlock_out rfl ?_ | refine LWp.seq ?_ | refine LWp.region ?_ | refine LWp.block ?_ | refine LWp.exit ?_ | refine LWp.ret ?_ | refine LWp.skip ?_ | refine LOps.valA ?_ | refine LOps.outA ?_ | refine LOps.whenA ?_ | refine LOps.pickA ?_)
      refine LOps.do0 (LDo.storeSlot hD rfl rfl k2 rfl rfl rfl hn) rfl rfl ?_
      rintro _ _ ⟨rfl, rfl⟩
      refine LOps.gen (fun S' => S.le S' ∧ S'.box b2 = some (leafL (addL l k s)) ∧ S'.box b4 = some (leafL noLeaf) ∧ S'.box b5 = some (slotL noSlot)) ⟨hle.setBox s2 _, box_set _ _ _, (box_set_ne _ _ m4_2).trans k4, (box_set_ne _ _ m5_2).trans k5⟩ ?_
      clear hle k2 k3 k4 k5 k9
      rintro S7 ⟨hle, k2, k4, k5⟩
      repeat (first | refine LOps.valH (LVal.load hD rfl rfl k2 rfl (rdLeaf _)) ?_ | refine LOps.nil ?_ | refine andThen_normal ?_ | refine andThen_exit ?_ | refine andThen_ret ?_ | refine inBlock_normal ?_ | refine inBlock_ret ?_ | refine inBlock_here ?_ | refine inBlock_out rfl ?_ | refine LWp.seq ?_ | refine LWp.region ?_ | refine LWp.block ?_ | refine LWp.exit ?_ | refine LWp.ret ?_ | refine LWp.skip ?_ | refine LOps.valA ?_ | refine LOps.outA ?_ | refine LOps.whenA ?_ | refine LOps.pickA ?_)
      refine LOps.storeA (b := b4) (off := 0) (cs := leafL noLeaf) (l := leafL (addL l k s)) ?_
      refine LOps.gen (fun S' => S.le S' ∧ S'.box b2 = some (leafL (addL l k s)) ∧ S'.box b4 = some (leafL (addL l k s)) ∧ S'.box b5 = some (slotL noSlot)) ⟨hle.setBox s4 _, (box_set_ne _ _ n2_4).trans k2, (box_set _ _ _).trans (congrArg some (stLeaf _ _)), (box_set_ne _ _ m5_4).trans k5⟩ ?_
      clear hle k2 k4 k5
      rintro Ss ⟨hle, k2, k4, k5⟩
      refine LOps.storeA (b := b5) (off := 0) (cs := slotL noSlot) (l := slotL noSlot) ?_
      refine LOps.gen (fun S' => S.le S' ∧ S'.box b2 = some (leafL (addL l k s)) ∧ S'.box b4 = some (leafL (addL l k s)) ∧ S'.box b5 = some (slotL noSlot)) ⟨hle.setBox s5 _, (box_set_ne _ _ n2_5).trans k2, (box_set_ne _ _ n4_5).trans k4, (box_set _ _ _).trans (congrArg some (rfl))⟩ ?_
      clear hle k2 k4 k5
      rintro Ss ⟨hle, k2, k4, k5⟩
      repeat (first | refine LOps.nil ?_ | refine andThen_normal ?_ | refine andThen_exit ?_ | refine andThen_ret ?_ | refine inBlock_normal ?_ | refine inBlock_ret ?_ | refine inBlock_here ?_ | refine inBlock_out rfl ?_ | refine LWp.seq ?_ | refine LWp.region ?_ | refine LWp.block ?_ | refine LWp.exit ?_ | refine LWp.ret ?_ | refine LWp.skip ?_ | refine LOps.valA ?_ | refine LOps.outA ?_ | refine LOps.whenA ?_ | refine LOps.pickA ?_ | refine LOps.storeA ?_)
      exact ⟨_, putRes rfl t1 rfl rfl t2 rfl rfl rfl k4 rfl k5 rfl rfl, rfl, hle⟩
    · rw [putL_full hfi hful]
      rw [hfi] at c4
      have hkn := findL_le l s.m
      generalize (findL l s.m).1 = k at *
      have hins : LFun G 58 [.one (.v (.int .u64 l.p)), .one (iv (k : Nat))] (noR l.p) := by
        have := refIns_F hP l.p (k : Nat) hl.p
        unfold insR at this
        rwa [if_neg (fun h => hful h.2.1)] at this
      repeat (first | refine LOps.valH (LVal.load hD rfl rfl k2 rfl (rdLeaf l)) ?_ | refine LOps.valH (LVal.load hD rfl rfl k2 rfl (rdPerm l)) ?_ | refine LOps.valG (LVal.call rfl rfl (by rw [hP]; exact Try.func50) rfl (by decide) c5) rfl rfl rfl ?_ | refine LOps.nil ?_ | refine andThen_normal ?_ | refine andThen_exit ?_ | refine andThen_ret ?_ | refine inBlock_normal ?_ | refine inBlock_ret ?_ | refine inBlock_here ?_ | refine inBlock_out rfl ?_ | refine LWp.seq ?_ | refine LWp.region ?_ | refine LWp.block ?_ | refine LWp.exit ?_ | refine LWp.ret ?_ | refine LWp.skip ?_ | refine LOps.val (LVal.call rfl rfl (by rw [hP]; exact Try.func25) rfl (by decide) (c4)) rfl rfl rfl ?_ | refine LOps.whenC (LVal.call rfl rfl (by rw [hP]; exact Try.func25) rfl (by decide) (c4)) ?_ | refine LOps.valA ?_ | refine LOps.outA ?_ | refine LOps.whenA ?_ | refine LOps.pickA ?_ | refine LOps.storeA ?_)
      skip
      refine LOps.do (LDo.alloc hD rfl rfl rfl) rfl rfl rfl ?_
      rintro _ _ ⟨b9, hb9, rfl, rfl⟩
      have n2_9 := fresh_ne hb9 k2
      have m9_2 := n2_9.symm
      have n3_9 := fresh_ne hb9 k3
      have m9_3 := n3_9.symm
      have n4_9 := fresh_ne hb9 k4
      have m9_4 := n4_9.symm
      have n5_9 := fresh_ne hb9 k5
      have m9_5 := n5_9.symm
      have s9 := hle.none hb9
      refine LOps.gen (fun S' => S.le S' ∧ S'.box b2 = some (leafL l) ∧ S'.box b3 = some (slotL s) ∧ S'.box b4 = some (leafL noLeaf) ∧ S'.box b5 = some (slotL noSlot) ∧ S'.box b9 = some ([.sl .nil [], .sl .nil []])) ⟨hle.newBox hb9 _, (box_new_ne _ _ n2_9).trans k2, (box_new_ne _ _ n3_9).trans k3, (box_new_ne _ _ n4_9).trans k4, (box_new_ne _ _ n5_9).trans k5, box_new _ _ _⟩ ?_
      clear hle hb9 k2 k3 k4 k5
      rintro S9 ⟨hle, k2, k3, k4, k5, k9⟩
      refine LOps.storeA (b := b9) (off := 0) (cs := [.sl .nil [], .sl .nil []]) (l := [.sl .sh (iList U), .sl .sh (iList F)]) ?_
      refine LOps.gen (fun S' => S.le S' ∧ S'.box b2 = some (leafL l) ∧ S'.box b3 = some (slotL s) ∧ S'.box b4 = some (leafL noLeaf) ∧ S'.box b5 = some (slotL noSlot) ∧ S'.box b9 = some ([.sl .sh (iList U), .sl .sh (iList F)])) ⟨hle.setBox s9 _, (box_set_ne _ _ n2_9).trans k2, (box_set_ne _ _ n3_9).trans k3, (box_set_ne _ _ n4_9).trans k4, (box_set_ne _ _ n5_9).trans k5, (box_set _ _ _).trans (congrArg some (rfl))⟩ ?_
      clear hle k2 k3 k4 k5 k9
      rintro Ss ⟨hle, k2, k3, k4, k5, k9⟩
      repeat (first | refine LWp.condF rfl ?_ | refine LOps.nil ?_ | refine andThen_normal ?_ | refine andThen_exit ?_ | refine andThen_ret ?_ | refine inBlock_normal ?_ | refine inBlock_ret ?_ | refine inBlock_here ?_ | refine inBlock_out rfl ?_ | refine LWp.seq ?_ | refine LWp.region ?_ | refine LWp.block ?_ | refine LWp.exit ?_ | refine LWp.ret ?_ | refine LWp.skip ?_ | refine LOps.valA ?_ | refine LOps.outA ?_ | refine LOps.whenA ?_ | refine LOps.pickA ?_ | refine LOps.storeA ?_)
      repeat (first | refine LOps.valH (LVal.load hD rfl rfl k2 rfl (rdPerm l)) ?_ | refine LOps.valH (LVal.load hD rfl rfl k2 rfl (rdLeaf l)) ?_ | refine LWp.condF rfl ?_ | refine LOps.nil ?_ | refine andThen_normal ?_ | refine andThen_exit ?_ | refine andThen_ret ?_ | refine inBlock_normal ?_ | refine inBlock_ret ?_ | refine inBlock_here ?_ | refine inBlock_out rfl ?_ | refine LWp.seq ?_ | refine LWp.region ?_ | refine LWp.block ?_ | refine LWp.exit ?_ | refine LWp.ret ?_ | refine LWp.skip ?_ | refine LOps.val (LVal.call rfl rfl (by rw [hP]; exact Try.func58) rfl (by decide) (hins)) rfl rfl rfl ?_ | refine LOps.whenC (LVal.call rfl rfl (by rw [hP]; exact Try.func58) rfl (by decide) (hins)) ?_ | refine LOps.valA ?_ | refine LOps.outA ?_ | refine LOps.whenA ?_ | refine LOps.pickA ?_)
      refine LOps.storeA (b := b4) (off := 0) (cs := leafL noLeaf) (l := leafL l) ?_
      refine LOps.gen (fun S' => S.le S' ∧ S'.box b2 = some (leafL l) ∧ S'.box b3 = some (slotL s) ∧ S'.box b4 = some (leafL l) ∧ S'.box b5 = some (slotL noSlot) ∧ S'.box b9 = some ([.sl .sh (iList U), .sl .sh (iList F)])) ⟨hle.setBox s4 _, (box_set_ne _ _ n2_4).trans k2, (box_set_ne _ _ n3_4).trans k3, (box_set _ _ _).trans (congrArg some (stLeaf _ _)), (box_set_ne _ _ m5_4).trans k5, (box_set_ne _ _ m9_4).trans k9⟩ ?_
      clear hle k2 k3 k4 k5 k9
      rintro Ss ⟨hle, k2, k3, k4, k5, k9⟩
      refine LOps.storeA (b := b5) (off := 0) (cs := slotL noSlot) (l := slotL noSlot) ?_
      refine LOps.gen (fun S' => S.le S' ∧ S'.box b2 = some (leafL l) ∧ S'.box b3 = some (slotL s) ∧ S'.box b4 = some (leafL l) ∧ S'.box b5 = some (slotL noSlot) ∧ S'.box b9 = some ([.sl .sh (iList U), .sl .sh (iList F)])) ⟨hle.setBox s5 _, (box_set_ne _ _ n2_5).trans k2, (box_set_ne _ _ n3_5).trans k3, (box_set_ne _ _ n4_5).trans k4, (box_set _ _ _).trans (congrArg some (rfl)), (box_set_ne _ _ m9_5).trans k9⟩ ?_
      clear hle k2 k3 k4 k5 k9
      rintro Ss ⟨hle, k2, k3, k4, k5, k9⟩
      repeat (first | refine LOps.nil ?_ | refine andThen_normal ?_ | refine andThen_exit ?_ | refine andThen_ret ?_ | refine inBlock_normal ?_ | refine inBlock_ret ?_ | refine inBlock_here ?_ | refine inBlock_out rfl ?_ | refine LWp.seq ?_ | refine LWp.region ?_ | refine LWp.block ?_ | refine LWp.exit ?_ | refine LWp.ret ?_ | refine LWp.skip ?_ | refine LOps.valA ?_ | refine LOps.outA ?_ | refine LOps.whenA ?_ | refine LOps.pickA ?_ | refine LOps.storeA ?_)
      exact ⟨_, putRes rfl t1 rfl rfl t2 rfl rfl rfl k4 rfl k5 rfl rfl, rfl, hle⟩

set_option maxHeartbeats 32000000 in
set_option maxRecDepth 20000 in
theorem refDel_L {G : Ctx} (hP : G.P = Try.prog) (l : LeafV) (hl : l.ok) (m : MarkV) (hm : m.ok) : LFun G 41 [.agg (leafL l), .agg (markL m)] (.tup [.agg (leafL (delL l m).1), .agg (slotL (delL l m).2.1), .one (bv (delL l m).2.2)]) := LFun.of fun S => by
  have hD : TabOK G.P D := by rw [hP]; exact hD0
  have c4 := refFind_L hP l hl m hm
  have t1 : TIok G.P 45 ti45 := hP ▸ tok45
  have t2 : TIok G.P 42 ti42 := hP ▸ tok42
  refine LCalls.enter (fn := Try.f41) (by rw [hP]; exact Try.func41) rfl rfl ?_
  repeat (first | refine LOps.nil ?_ | refine andThen_normal ?_ | refine andThen_exit ?_ | refine andThen_ret ?_ | refine inBlock_normal ?_ | refine inBlock_ret ?_ | refine inBlock_here ?_ | refine inBlock_out rfl ?_ | refine LWp.seq ?_ | refine LWp.region ?_ | refine LWp.block ?_ | refine LWp.exit ?_ | refine LWp.ret ?_ | refine LWp.skip ?_ | refine LOps.valA ?_ | refine LOps.outA ?_ | refine LOps.whenA ?_ | refine LOps.pickA ?_ | refine LOps.storeA ?_)
  have hle := LS.le.refl S
  refine LOps.do (LDo.box rfl rfl) rfl rfl rfl ?_
  rintro _ _ ⟨b2, hb2, rfl, rfl⟩
  have s2 := hle.none hb2
  refine LOps.gen (fun S' => S.le S' ∧ S'.box b2 = some (leafL l)) ⟨hle.newBox hb2 _, box_new _ _ _⟩ ?_
  clear hle hb2 
  rintro S2 ⟨hle, k2⟩
  skip
  refine LOps.do (LDo.box rfl rfl) rfl rfl rfl ?_
  rintro _ _ ⟨b3, hb3, rfl, rfl⟩
  have n2_3 := fresh_ne hb3 k2
  have m3_2 := n2_3.symm
  have s3 := hle.none hb3
  refine LOps.gen (fun S' => S.le S' ∧ S'.box b2 = some (leafL l) ∧ S'.box b3 = some (markL m)) ⟨hle.newBox hb3 _, (box_new_ne _ _ n2_3).trans k2, box_new _ _ _⟩ ?_
  clear hle hb3 k2
  rintro S3 ⟨hle, k2, k3⟩
  skip
  refine LOps.do (LDo.alloc hD rfl rfl rfl) rfl rfl rfl ?_
  rintro _ _ ⟨b4, hb4, rfl, rfl⟩
  have n2_4 := fresh_ne hb4 k2
  have m4_2 := n2_4.symm
  have n3_4 := fresh_ne hb4 k3
  have m4_3 := n3_4.symm
  have s4 := hle.none hb4
  refine LOps.gen (fun S' => S.le S' ∧ S'.box b2 = some (leafL l) ∧ S'.box b3 = some (markL m) ∧ S'.box b4 = some (leafL noLeaf)) ⟨hle.newBox hb4 _, (box_new_ne _ _ n2_4).trans k2, (box_new_ne _ _ n3_4).trans k3, (box_new _ _ _).trans (congrArg some zeroLeaf')⟩ ?_
  clear hle hb4 k2 k3
  rintro S4 ⟨hle, k2, k3, k4⟩
  skip
  refine LOps.do (LDo.alloc hD rfl rfl rfl) rfl rfl rfl ?_
  rintro _ _ ⟨b5, hb5, rfl, rfl⟩
  have n2_5 := fresh_ne hb5 k2
  have m5_2 := n2_5.symm
  have n3_5 := fresh_ne hb5 k3
  have m5_3 := n3_5.symm
  have n4_5 := fresh_ne hb5 k4
  have m5_4 := n4_5.symm
  have s5 := hle.none hb5
  refine LOps.gen (fun S' => S.le S' ∧ S'.box b2 = some (leafL l) ∧ S'.box b3 = some (markL m) ∧ S'.box b4 = some (leafL noLeaf) ∧ S'.box b5 = some (slotL noSlot)) ⟨hle.newBox hb5 _, (box_new_ne _ _ n2_5).trans k2, (box_new_ne _ _ n3_5).trans k3, (box_new_ne _ _ n4_5).trans k4, box_new _ _ _⟩ ?_
  clear hle hb5 k2 k3 k4
  rintro S5 ⟨hle, k2, k3, k4, k5⟩
  cases hf : (findL l m).2 with
  | false =>
    rw [delL_no hf]
    rw [hf] at c4
    repeat (first | refine LOps.valH (LVal.load hD rfl rfl k2 rfl (rdLeaf l)) ?_ | refine LWp.condT rfl ?_ | refine LOps.nil ?_ | refine andThen_normal ?_ | refine andThen_exit ?_ | refine andThen_ret ?_ | refine inBlock_normal ?_ | refine inBlock_ret ?_ | refine inBlock_here ?_ | refine inBlock_out rfl ?_ | refine LWp.seq ?_ | refine LWp.region ?_ | refine LWp.block ?_ | refine LWp.exit ?_ | refine LWp.ret ?_ | refine LWp.skip ?_ | refine LOps.val (LVal.call rfl rfl (by rw [hP]; exact Try.func25) rfl (by decide) (c4)) rfl rfl rfl ?_ | refine LOps.whenC (LVal.call rfl rfl (by rw [hP]; exact Try.func25) rfl (by decide) (c4)) ?_ | refine LOps.valA ?_ | refine LOps.outA ?_ | refine LOps.whenA ?_ | refine LOps.pickA ?_)
    refine LOps.storeA (b := b4) (off := 0) (cs := leafL noLeaf) (l := leafL l) ?_
    refine LOps.gen (fun S' => S.le S' ∧ S'.box b2 = some (leafL l) ∧ S'.box b3 = some (markL m) ∧ S'.box b4 = some (leafL l) ∧ S'.box b5 = some (slotL noSlot)) ⟨hle.setBox s4 _, (box_set_ne _ _ n2_4).trans k2, (box_set_ne _ _ n3_4).trans k3, (box_set _ _ _).trans (congrArg some (stLeaf _ _)), (box_set_ne _ _ m5_4).trans k5⟩ ?_
    clear hle k2 k3 k4 k5
    rintro Ss ⟨hle, k2, k3, k4, k5⟩
    refine LOps.storeA (b := b5) (off := 0) (cs := slotL noSlot) (l := slotL noSlot) ?_
    refine LOps.gen (fun S' => S.le S' ∧ S'.box b2 = some (leafL l) ∧ S'.box b3 = some (markL m) ∧ S'.box b4 = some (leafL l) ∧ S'.box b5 = some (slotL noSlot)) ⟨hle.setBox s5 _, (box_set_ne _ _ n2_5).trans k2, (box_set_ne _ _ n3_5).trans k3, (box_set_ne _ _ n4_5).trans k4, (box_set _ _ _).trans (congrArg some (rfl))⟩ ?_
    clear hle k2 k3 k4 k5
    rintro Ss ⟨hle, k2, k3, k4, k5⟩
    repeat (first | refine LOps.nil ?_ | refine andThen_normal ?_ | refine andThen_exit ?_ | refine andThen_ret ?_ | refine inBlock_normal ?_ | refine inBlock_ret ?_ | refine inBlock_here ?_ | refine inBlock_out rfl ?_ | refine LWp.seq ?_ | refine LWp.region ?_ | refine LWp.block ?_ | refine LWp.exit ?_ | refine LWp.ret ?_ | refine LWp.skip ?_ | refine LOps.valA ?_ | refine LOps.outA ?_ | refine LOps.whenA ?_ | refine LOps.pickA ?_ | refine LOps.storeA ?_)
    exact ⟨_, putRes rfl t1 rfl rfl t2 rfl rfl rfl k4 rfl k5 rfl rfl, rfl, hle⟩
  | true =>
    obtain ⟨hr, hlt⟩ := findL_yes hf
    rw [delL_yes hf]
    have hrt := rightL_rt hr
    have hn15 := rt_le hrt
    rw [hf] at c4
    generalize (findL l m).1 = k at *
    have hn := nib_low hrt (show k < 15 by omega)
    have hrem : LFun G 59 [.one (.v (.int .u64 l.p)), .one (iv (k : Nat))] (yesR (remW l.p k) (nib l.p k)) := by
      have := refRem_F hP l.p (k : Nat) hl.p
      unfold remR at this
      rwa [if_pos ⟨hrt, by omega, by omega⟩, Int.toNat_natCast] at this
    repeat (first | refine LOps.valH (LVal.load hD rfl rfl k2 rfl (rdLeaf l)) ?_ | refine LWp.condF rfl ?_ | refine LOps.valH (LVal.load hD rfl rfl k2 rfl (rdPerm l)) ?_ | refine LOps.valH (LVal.indexP hD rfl rfl rfl rfl rfl rfl hn) ?_ | refine LOps.valH (LVal.load hD rfl rfl k2 rfl (rdSlot l hn)) ?_ | refine LOps.nil ?_ | refine andThen_normal ?_ | refine andThen_exit ?_ | refine andThen_ret ?_ | refine inBlock_normal ?_ | refine inBlock_ret ?_ | refine inBlock_here ?_ | refine inBlock_out rfl ?_ | refine LWp.seq ?_ | refine LWp.region ?_ | refine LWp.block ?_ | refine LWp.exit ?_ | refine LWp.ret ?_ | refine LWp.skip ?_ | refine LOps.val (LVal.call rfl rfl (by rw [hP]; exact Try.func25) rfl (by decide) (c4)) rfl rfl rfl ?_ | refine LOps.val (LVal.call rfl rfl (by rw [hP]; exact Try.func59) rfl (by decide) (hrem)) rfl rfl rfl ?_ | refine LOps.whenC (LVal.call rfl rfl (by rw [hP]; exact Try.func25) rfl (by decide) (c4)) ?_ | refine LOps.whenC (LVal.call rfl rfl (by rw [hP]; exact Try.func59) rfl (by decide) (hrem)) ?_ | refine LOps.valA ?_ | refine LOps.outA ?_ | refine LOps.whenA ?_ | refine LOps.pickA ?_)
    skip
    refine LOps.do (LDo.alloc hD rfl rfl rfl) rfl rfl rfl ?_
    rintro _ _ ⟨b12, hb12, rfl, rfl⟩
    have n2_12 := fresh_ne hb12 k2
    have m12_2 := n2_12.symm
    have n3_12 := fresh_ne hb12 k3
    have m12_3 := n3_12.symm
    have n4_12 := fresh_ne hb12 k4
    have m12_4 := n4_12.symm
    have n5_12 := fresh_ne hb12 k5
    have m12_5 := n5_12.symm
    have s12 := hle.none hb12
    refine LOps.gen (fun S' => S.le S' ∧ S'.box b2 = some (leafL l) ∧ S'.box b3 = some (markL m) ∧ S'.box b4 = some (leafL noLeaf) ∧ S'.box b5 = some (slotL noSlot) ∧ S'.box b12 = some (slotL noSlot)) ⟨hle.newBox hb12 _, (box_new_ne _ _ n2_12).trans k2, (box_new_ne _ _ n3_12).trans k3, (box_new_ne _ _ n4_12).trans k4, (box_new_ne _ _ n5_12).trans k5, box_new _ _ _⟩ ?_
    clear hle hb12 k2 k3 k4 k5
    rintro S12 ⟨hle, k2, k3, k4, k5, k12⟩
    repeat (first | refine LOps.nil ?_ | refine andThen_normal ?_ | refine andThen_exit ?_ | refine andThen_ret ?_ | refine inBlock_normal ?_ | refine inBlock_ret ?_ | refine inBlock_here ?_ | refine inBlock_out rfl ?_ | refine LWp.seq ?_ | refine LWp.region ?_ | refine LWp.block ?_ | refine LWp.exit ?_ | refine LWp.ret ?_ | refine LWp.skip ?_ | refine LOps.valA ?_ | refine LOps.outA ?_ | refine LOps.whenA ?_ | refine LOps.pickA ?_)
    refine LOps.storeA (b := b12) (off := 0) (cs := slotL noSlot) (l := slotL (l.rank k)) ?_
    refine LOps.gen (fun S' => S.le S' ∧ S'.box b2 = some (leafL l) ∧ S'.box b3 = some (markL m) ∧ S'.box b4 = some (leafL noLeaf) ∧ S'.box b5 = some (slotL noSlot) ∧ S'.box b12 = some (slotL (l.rank k))) ⟨hle.setBox s12 _, (box_set_ne _ _ n2_12).trans k2, (box_set_ne _ _ n3_12).trans k3, (box_set_ne _ _ n4_12).trans k4, (box_set_ne _ _ n5_12).trans k5, (box_set _ _ _).trans (congrArg some (rfl))⟩ ?_
    clear hle k2 k3 k4 k5 k12
    rintro Ss ⟨hle, k2, k3, k4, k5, k12⟩
    repeat (first | refine LOps.nil ?_ | refine andThen_normal ?_ | refine andThen_exit ?_ | refine andThen_ret ?_ | refine inBlock_normal ?_ | refine inBlock_ret ?_ | refine inBlock_here ?_ | refine inBlock_out rfl ?_ | refine LWp.seq ?_ | refine LWp.region ?_ | refine LWp.block ?_ | refine LWp.exit ?_ | refine LWp.ret ?_ | refine LWp.skip ?_ | refine LOps.valA ?_ | refine LOps.outA ?_ | refine LOps.whenA ?_ | refine LOps.pickA ?_)
    refine LOps.storeA (b := b2) (off := 0) (cs := leafL l) (l := [u64 (remW l.p k : Nat)]) ?_
    refine LOps.gen (fun S' => S.le S' ∧ S'.box b2 = some (leafL { l with p := remW l.p k }) ∧ S'.box b3 = some (markL m) ∧ S'.box b4 = some (leafL noLeaf) ∧ S'.box b5 = some (slotL noSlot) ∧ S'.box b12 = some (slotL (l.rank k))) ⟨hle.setBox s2 _, (box_set _ _ _).trans (congrArg some (stPerm _ _)), (box_set_ne _ _ m3_2).trans k3, (box_set_ne _ _ m4_2).trans k4, (box_set_ne _ _ m5_2).trans k5, (box_set_ne _ _ m12_2).trans k12⟩ ?_
    clear hle k2 k3 k4 k5 k12
    rintro Ss ⟨hle, k2, k3, k4, k5, k12⟩
    repeat (first | refine LOps.valH (LVal.indexP hD rfl rfl rfl rfl rfl rfl hn) ?_ | refine LOps.nil ?_ | refine andThen_normal ?_ | refine andThen_exit ?_ | refine andThen_ret ?_ | refine inBlock_normal ?_ | refine inBlock_ret ?_ | refine inBlock_here ?_ | refine inBlock_out rfl ?_ | refine LWp.seq ?_ | refine LWp.region ?_ | refine LWp.block ?_ | refine LWp.exit ?_ | refine LWp.ret ?_ | refine LWp.skip ?_ | refine LOps.valA ?_ | refine LOps.outA ?_ | refine LOps.whenA ?_ | refine LOps.pickA ?_)
    refine LOps.do0 (LDo.storeSlot (s := noSlot) hD rfl rfl k2 rfl rfl rfl hn) rfl rfl ?_
    rintro _ _ ⟨rfl, rfl⟩
    refine LOps.gen (fun S' => S.le S' ∧ S'.box b2 = some (leafL (cutL l k)) ∧ S'.box b4 = some (leafL noLeaf) ∧ S'.box b5 = some (slotL noSlot) ∧ S'.box b12 = some (slotL (l.rank k))) ⟨hle.setBox s2 _, box_set _ _ _, (box_set_ne _ _ m4_2).trans k4, (box_set_ne _ _ m5_2).trans k5, (box_set_ne _ _ m12_2).trans k12⟩ ?_
    clear hle k2 k3 k4 k5 k12
    rintro S7 ⟨hle, k2, k4, k5, k12⟩
    repeat (first | refine LOps.nil ?_ | refine andThen_normal ?_ | refine andThen_exit ?_ | refine andThen_ret ?_ | refine inBlock_normal ?_ | refine inBlock_ret ?_ | refine inBlock_here ?_ | refine inBlock_out rfl ?_ | refine LWp.seq ?_ | refine LWp.region ?_ | refine LWp.block ?_ | refine LWp.exit ?_ | refine LWp.ret ?_ | refine LWp.skip ?_ | refine LOps.valA ?_ | refine LOps.outA ?_ | refine LOps.whenA ?_ | refine LOps.pickA ?_ | refine LOps.storeA ?_)
    refine LWp.drawX (fun b => b = b4) [0, 1, 2, 3, 4] (by rw [hP]; rfl) rfl ?_
    repeat (first | refine LRl.valH (LVal.load hD rfl rfl k2 rfl (rdLeaf _)) ?_ (fun _ hS => LVal.load hD rfl rfl (hS.box _ _ k2 (by first | exact id | (intro hx; rcases hx with hx | hx <;> omega) | (intro hx; have hx2 : _ = _ := hx; omega) | (intro hx; exact absurd hx.1 (by decide)))) rfl (rdLeaf _)) | refine LRl.nil ?_ | refine LRl.valA ?_ | refine LRl.outA ?_ | refine LRl.whenA ?_ | refine LRl.pickA ?_)
    refine LRl.act0 (LDo.store hD rfl rfl k4 rfl rfl rfl rfl) rfl rfl rfl (by rintro _ _ ⟨rfl, rfl⟩; exact .inl (LS.leX.setBox (X := fun b => b = b4) rfl _)) ?_
    rintro _ _ ⟨rfl, rfl⟩
    refine LRl.act0 (LDo.store hD rfl rfl ((box_set_ne _ _ m5_4).trans k5) rfl rfl rfl rfl) rfl rfl rfl (fun _ _ _ => .inr rfl) ?_
    rintro _ _ ⟨rfl, rfl⟩
    repeat (first | refine LRl.nil ?_ | refine LRl.valA ?_ | refine LRl.outA ?_ | refine LRl.whenA ?_ | refine LRl.pickA ?_)
    repeat (first | refine LOps.nil ?_ | refine andThen_normal ?_ | refine andThen_exit ?_ | refine andThen_ret ?_ | refine inBlock_normal ?_ | refine inBlock_ret ?_ | refine inBlock_here ?_ | refine inBlock_out rfl ?_ | refine LWp.seq ?_ | refine LWp.region ?_ | refine LWp.block ?_ | refine LWp.exit ?_ | refine LWp.ret ?_ | refine LWp.skip ?_ | refine LOps.valA ?_ | refine LOps.outA ?_ | refine LOps.whenA ?_ | refine LOps.pickA ?_ | refine LOps.storeA ?_)
    exact ⟨_, putRes rfl t1 rfl rfl t2 rfl rfl rfl ((box_set_ne _ _ n4_5).trans ((box_set _ _ _).trans (congrArg some (stLeaf _ _)))) rfl (box_set _ _ _) rfl rfl, rfl, (hle.setBox s4 _).setBox s5 _⟩
end Go.Proofs.Ytgkjhlmfgaaddaa.LF
