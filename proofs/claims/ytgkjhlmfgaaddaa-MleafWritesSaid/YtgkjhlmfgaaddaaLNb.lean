/- The document's Split; the law's has. -/
import Derived.Test.YtgkjhlmfgaaddaaLNa
import Derived.Test.YtgkjhlmfgaaddaaLMz
set_option linter.unusedVariables false
set_option linter.unusedSimpArgs false
namespace Go.Proofs.Ytgkjhlmfgaaddaa.LF
open Go.RowKit
set_option linter.unusedVariables false

theorem stZ' : splice (leafL noLeaf) 0 (lzero ti45) = leafL noLeaf := by rw [show lzero ti45 = leafL noLeaf from zeroLeaf']; exact stLeaf _ _
/-- A leaf's slot of a mark. -/
def hasL (l : LeafV) (m : MarkV) : SlotV × Bool := if (findL l m).2 = true then (l.rank (findL l m).1, true) else (noSlot, false)
set_option maxHeartbeats 8000000 in
theorem hasLeaf_L {G : Ctx} (hP : G.P = Try.prog) (l : LeafV) (hl : l.ok) (m : MarkV) : LFun G 45 [.agg (leafL l), .agg (markL m)] (.tup [.agg (slotL (hasL l m).1), .one (bv (hasL l m).2)]) := LFun.of fun S => by
  have hD : TabOK G.P D := by rw [hP]; exact hD0
  have c1 := find_L hP l hl m
  refine LCalls.enter (fn := Try.f45) (by rw [hP]; exact Try.func45) rfl rfl ?_
  repeat (first | refine LOps.nil ?_ | refine andThen_normal ?_ | refine andThen_exit ?_ | refine andThen_ret ?_ | refine inBlock_normal ?_ | refine inBlock_ret ?_ | refine inBlock_here ?_ | refine inBlock_out rfl ?_ | refine LWp.seq ?_ | refine LWp.region ?_ | refine LWp.block ?_ | refine LWp.exit ?_ | refine LWp.ret ?_ | refine LWp.skip ?_ | refine LOps.valA ?_ | refine LOps.outA ?_ | refine LOps.whenA ?_ | refine LOps.pickA ?_ | refine LOps.storeA ?_)
  have hle := LS.le.refl S
  refine LOps.do (LDo.box rfl rfl) rfl rfl rfl ?_
  rintro _ _ ⟨b2, hb2, rfl, rfl⟩
  have s2 := hle.none hb2
  refine LOps.gen (fun S' => S.le S' ∧ S'.box b2 = some (leafL l)) ⟨hle.newBox hb2 _, box_new _ _ _⟩ ?_
  clear hle hb2 
  rintro S2 ⟨hle, k2⟩
  skip
  refine LOps.do (LDo.box rfl rfl) rfl rfl rfl ?_
  rintro _ _ ⟨b3, hb3, rfl, rfl⟩
  have n2_3 := fresh_ne hb3 k2
  have m3_2 := n2_3.symm
  have s3 := hle.none hb3
  refine LOps.gen (fun S' => S.le S' ∧ S'.box b2 = some (leafL l) ∧ S'.box b3 = some (markL m)) ⟨hle.newBox hb3 _, (box_new_ne _ _ n2_3).trans k2, box_new _ _ _⟩ ?_
  clear hle hb3 k2
  rintro S3 ⟨hle, k2, k3⟩
  skip
  refine LOps.do (LDo.alloc hD rfl rfl rfl) rfl rfl rfl ?_
  rintro _ _ ⟨b4, hb4, rfl, rfl⟩
  have n2_4 := fresh_ne hb4 k2
  have m4_2 := n2_4.symm
  have n3_4 := fresh_ne hb4 k3
  have m4_3 := n3_4.symm
  have s4 := hle.none hb4
  refine LOps.gen (fun S' => S.le S' ∧ S'.box b2 = some (leafL l) ∧ S'.box b3 = some (markL m) ∧ S'.box b4 = some (slotL noSlot)) ⟨hle.newBox hb4 _, (box_new_ne _ _ n2_4).trans k2, (box_new_ne _ _ n3_4).trans k3, box_new _ _ _⟩ ?_
  clear hle hb4 k2 k3
  rintro S4 ⟨hle, k2, k3, k4⟩
  cases hf : (findL l m).2 with
  | false =>
    have e : hasL l m = (noSlot, false) := by unfold hasL; rw [if_neg (by rw [hf]; decide)]
    rw [e]
    rw [hf] at c1
    repeat (first | refine LOps.valH (LVal.load hD rfl rfl k2 rfl (rdLeaf l)) ?_ | refine LWp.condT rfl ?_ | refine LOps.nil ?_ | refine andThen_normal ?_ | refine andThen_exit ?_ | refine andThen_ret ?_ | refine inBlock_normal ?_ | refine inBlock_ret ?_ | refine inBlock_here ?_ | refine inBlock_out rfl ?_ | refine LWp.seq ?_ | refine LWp.region ?_ | refine LWp.block ?_ | refine LWp.exit ?_ | refine LWp.ret ?_ | refine LWp.skip ?_ | refine LOps.val (LVal.call rfl rfl (by rw [hP]; exact Try.func24) rfl (by decide) (c1)) rfl rfl rfl ?_ | refine LOps.whenC (LVal.call rfl rfl (by rw [hP]; exact Try.func24) rfl (by decide) (c1)) ?_ | refine LOps.valA ?_ | refine LOps.outA ?_ | refine LOps.whenA ?_ | refine LOps.pickA ?_)
    refine LOps.storeA (b := b4) (off := 0) (cs := slotL noSlot) (l := slotL noSlot) ?_
    refine LOps.gen (fun S' => S.le S' ∧ S'.box b2 = some (leafL l) ∧ S'.box b3 = some (markL m) ∧ S'.box b4 = some (slotL noSlot)) ⟨hle.setBox s4 _, (box_set_ne _ _ n2_4).trans k2, (box_set_ne _ _ n3_4).trans k3, (box_set _ _ _).trans (congrArg some (rfl))⟩ ?_
    clear hle k2 k3 k4
    rintro Ss ⟨hle, k2, k3, k4⟩
    repeat (first | refine LOps.nil ?_ | refine andThen_normal ?_ | refine andThen_exit ?_ | refine andThen_ret ?_ | refine inBlock_normal ?_ | refine inBlock_ret ?_ | refine inBlock_here ?_ | refine inBlock_out rfl ?_ | refine LWp.seq ?_ | refine LWp.region ?_ | refine LWp.block ?_ | refine LWp.exit ?_ | refine LWp.ret ?_ | refine LWp.skip ?_ | refine LOps.valA ?_ | refine LOps.outA ?_ | refine LOps.whenA ?_ | refine LOps.pickA ?_ | refine LOps.storeA ?_)
    exact ⟨_, atRes hP rfl rfl k4 rfl rfl, rfl, hle⟩
  | true =>
    have e : hasL l m = (l.rank (findL l m).1, true) := by unfold hasL; rw [if_pos hf]
    rw [e]
    obtain ⟨hr, hlt⟩ := findL_yes hf
    rw [hf] at c1
    have c2 := at_L hP l hl ((findL l m).1 : Nat)
    rw [at_rank ((fit_iff l).1 hr) hlt] at c2
    repeat (first | refine LOps.valH (LVal.load hD rfl rfl k2 rfl (rdLeaf l)) ?_ | refine LWp.condF rfl ?_ | refine LOps.nil ?_ | refine andThen_normal ?_ | refine andThen_exit ?_ | refine andThen_ret ?_ | refine inBlock_normal ?_ | refine inBlock_ret ?_ | refine inBlock_here ?_ | refine inBlock_out rfl ?_ | refine LWp.seq ?_ | refine LWp.region ?_ | refine LWp.block ?_ | refine LWp.exit ?_ | refine LWp.ret ?_ | refine LWp.skip ?_ | refine LOps.val (LVal.call rfl rfl (by rw [hP]; exact Try.func24) rfl (by decide) (c1)) rfl rfl rfl ?_ | refine LOps.val (LVal.call rfl rfl (by rw [hP]; exact Try.func17) rfl (by decide) (c2)) rfl rfl rfl ?_ | refine LOps.whenC (LVal.call rfl rfl (by rw [hP]; exact Try.func24) rfl (by decide) (c1)) ?_ | refine LOps.whenC (LVal.call rfl rfl (by rw [hP]; exact Try.func17) rfl (by decide) (c2)) ?_ | refine LOps.valA ?_ | refine LOps.outA ?_ | refine LOps.whenA ?_ | refine LOps.pickA ?_)
    refine LOps.storeA (b := b4) (off := 0) (cs := slotL noSlot) (l := slotL (l.rank (findL l m).1)) ?_
    refine LOps.gen (fun S' => S.le S' ∧ S'.box b2 = some (leafL l) ∧ S'.box b3 = some (markL m) ∧ S'.box b4 = some (slotL (l.rank (findL l m).1))) ⟨hle.setBox s4 _, (box_set_ne _ _ n2_4).trans k2, (box_set_ne _ _ n3_4).trans k3, (box_set _ _ _).trans (congrArg some (rfl))⟩ ?_
    clear hle k2 k3 k4
    rintro Ss ⟨hle, k2, k3, k4⟩
    repeat (first | refine LOps.nil ?_ | refine andThen_normal ?_ | refine andThen_exit ?_ | refine andThen_ret ?_ | refine inBlock_normal ?_ | refine inBlock_ret ?_ | refine inBlock_here ?_ | refine inBlock_out rfl ?_ | refine LWp.seq ?_ | refine LWp.region ?_ | refine LWp.block ?_ | refine LWp.exit ?_ | refine LWp.ret ?_ | refine LWp.skip ?_ | refine LOps.valA ?_ | refine LOps.outA ?_ | refine LOps.whenA ?_ | refine LOps.pickA ?_ | refine LOps.storeA ?_)
    exact ⟨_, atRes hP rfl rfl k4 rfl rfl, rfl, hle⟩

set_option maxHeartbeats 32000000 in
set_option maxRecDepth 20000 in
theorem refSplit_L {G : Ctx} (hP : G.P = Try.prog) (l : LeafV) (hl : l.ok) (x y : Int) : LFun G 43 [.agg (leafL l), .agg [iv x, u64 y]] (.tup [.agg (leafL (splitL l x y).1), .agg (leafL (splitL l x y).2.1), .agg (markL (splitL l x y).2.2)]) := LFun.of fun S => by
  have hD : TabOK G.P D := by rw [hP]; exact hD0
  have c1 := refUse_F hP l hl
  have c2 := refRight_L hP l hl
  have c3 := refNew_L hP
  refine LCalls.enter (fn := Try.f43) (by rw [hP]; exact Try.func43) rfl rfl ?_
  repeat (first | refine LOps.nil ?_ | refine andThen_normal ?_ | refine andThen_exit ?_ | refine andThen_ret ?_ | refine inBlock_normal ?_ | refine inBlock_ret ?_ | refine inBlock_here ?_ | refine inBlock_out rfl ?_ | refine LWp.seq ?_ | refine LWp.region ?_ | refine LWp.block ?_ | refine LWp.exit ?_ | refine LWp.ret ?_ | refine LWp.skip ?_ | refine LOps.valA ?_ | refine LOps.outA ?_ | refine LOps.whenA ?_ | refine LOps.pickA ?_ | refine LOps.storeA ?_)
  have hle := LS.le.refl S
  refine LOps.do (LDo.box rfl rfl) rfl rfl rfl ?_
  rintro _ _ ⟨b2, hb2, rfl, rfl⟩
  have s2 := hle.none hb2
  refine LOps.gen (fun S' => S.le S' ∧ S'.box b2 = some (leafL l)) ⟨hle.newBox hb2 _, box_new _ _ _⟩ ?_
  clear hle hb2 
  rintro S2 ⟨hle, k2⟩
  skip
  refine LOps.do (LDo.box rfl rfl) rfl rfl rfl ?_
  rintro _ _ ⟨b3, hb3, rfl, rfl⟩
  have n2_3 := fresh_ne hb3 k2
  have m3_2 := n2_3.symm
  have s3 := hle.none hb3
  refine LOps.gen (fun S' => S.le S' ∧ S'.box b2 = some (leafL l) ∧ S'.box b3 = some ([iv x, u64 y])) ⟨hle.newBox hb3 _, (box_new_ne _ _ n2_3).trans k2, box_new _ _ _⟩ ?_
  clear hle hb3 k2
  rintro S3 ⟨hle, k2, k3⟩
  skip
  refine LOps.do (LDo.alloc hD rfl rfl rfl) rfl rfl rfl ?_
  rintro _ _ ⟨b4, hb4, rfl, rfl⟩
  have n2_4 := fresh_ne hb4 k2
  have m4_2 := n2_4.symm
  have n3_4 := fresh_ne hb4 k3
  have m4_3 := n3_4.symm
  have s4 := hle.none hb4
  refine LOps.gen (fun S' => S.le S' ∧ S'.box b2 = some (leafL l) ∧ S'.box b3 = some ([iv x, u64 y]) ∧ S'.box b4 = some (leafL noLeaf)) ⟨hle.newBox hb4 _, (box_new_ne _ _ n2_4).trans k2, (box_new_ne _ _ n3_4).trans k3, (box_new _ _ _).trans (congrArg some zeroLeaf')⟩ ?_
  clear hle hb4 k2 k3
  rintro S4 ⟨hle, k2, k3, k4⟩
  skip
  refine LOps.do (LDo.alloc hD rfl rfl rfl) rfl rfl rfl ?_
  rintro _ _ ⟨b5, hb5, rfl, rfl⟩
  have n2_5 := fresh_ne hb5 k2
  have m5_2 := n2_5.symm
  have n3_5 := fresh_ne hb5 k3
  have m5_3 := n3_5.symm
  have n4_5 := fresh_ne hb5 k4
  have m5_4 := n4_5.symm
  have s5 := hle.none hb5
  refine LOps.gen (fun S' => S.le S' ∧ S'.box b2 = some (leafL l) ∧ S'.box b3 = some ([iv x, u64 y]) ∧ S'.box b4 = some (leafL noLeaf) ∧ S'.box b5 = some (leafL noLeaf)) ⟨hle.newBox hb5 _, (box_new_ne _ _ n2_5).trans k2, (box_new_ne _ _ n3_5).trans k3, (box_new_ne _ _ n4_5).trans k4, (box_new _ _ _).trans (congrArg some zeroLeaf')⟩ ?_
  clear hle hb5 k2 k3 k4
  rintro S5 ⟨hle, k2, k3, k4, k5⟩
  skip
  refine LOps.do (LDo.alloc hD rfl rfl rfl) rfl rfl rfl ?_
  rintro _ _ ⟨b6, hb6, rfl, rfl⟩
  have n2_6 := fresh_ne hb6 k2
  have m6_2 := n2_6.symm
  have n3_6 := fresh_ne hb6 k3
  have m6_3 := n3_6.symm
  have n4_6 := fresh_ne hb6 k4
  have m6_4 := n4_6.symm
  have n5_6 := fresh_ne hb6 k5
  have m6_5 := n5_6.symm
  have s6 := hle.none hb6
  refine LOps.gen (fun S' => S.le S' ∧ S'.box b2 = some (leafL l) ∧ S'.box b3 = some ([iv x, u64 y]) ∧ S'.box b4 = some (leafL noLeaf) ∧ S'.box b5 = some (leafL noLeaf) ∧ S'.box b6 = some (markL noMark)) ⟨hle.newBox hb6 _, (box_new_ne _ _ n2_6).trans k2, (box_new_ne _ _ n3_6).trans k3, (box_new_ne _ _ n4_6).trans k4, (box_new_ne _ _ n5_6).trans k5, box_new _ _ _⟩ ?_
  clear hle hb6 k2 k3 k4 k5
  rintro S6 ⟨hle, k2, k3, k4, k5, k6⟩
  cases hr : rightL l with
  | false =>
    have e : splitL l x y = (l, noLeaf, noMark) := by unfold splitL; rw [if_neg (fun h => by rw [hr] at h; cases h.1)]
    rw [e]
    rw [hr] at c2
    repeat (first | refine LOps.valH (LVal.call rfl rfl (by rw [hP]; exact Try.func26) rfl (by decide) (c1)) ?_ | refine LOps.valH (LVal.call rfl rfl (by rw [hP]; exact Try.func20) rfl (by decide) (c2)) ?_ | refine LOps.valH (LVal.load hD rfl rfl k2 rfl (rdLeaf l)) ?_ | refine LWp.condT rfl ?_ | refine LOps.val (LVal.build (l := lzero ti45) hD rfl rfl rfl rfl rfl rfl rfl) rfl rfl rfl ?_ | refine LOps.valH (LVal.to (LVal.binOp hD rfl rfl rfl rfl) (r' := .one (.v (.bool true))) (congrArg (fun b => TV.one (.v (.bool b))) (by first | exact decide_eq_true (by omega) | (rw [beq_iff_eq]; omega) | (rw [bne_iff_ne]; omega)))) ?_ | refine LOps.valH (LVal.to (LVal.binOp hD rfl rfl rfl rfl) (r' := .one (.v (.bool false))) (congrArg (fun b => TV.one (.v (.bool b))) (by first | exact decide_eq_false (by omega) | (rw [beq_eq_false_iff_ne]; omega) | (rw [bne_eq_false_iff_eq]; omega)))) ?_ | refine LOps.valW ?_ | refine LOps.nil ?_ | refine andThen_normal ?_ | refine andThen_exit ?_ | refine andThen_ret ?_ | refine inBlock_normal ?_ | refine inBlock_ret ?_ | refine inBlock_here ?_ | refine inBlock_out rfl ?_ | refine LWp.seq ?_ | refine LWp.region ?_ | refine LWp.block ?_ | refine LWp.exit ?_ | refine LWp.ret ?_ | refine LWp.skip ?_ | refine LOps.val (LVal.call rfl rfl (by rw [hP]; exact Try.func26) rfl (by decide) (c1)) rfl rfl rfl ?_ | refine LOps.val (LVal.call rfl rfl (by rw [hP]; exact Try.func20) rfl (by decide) (c2)) rfl rfl rfl ?_ | refine LOps.whenC (LVal.call rfl rfl (by rw [hP]; exact Try.func26) rfl (by decide) (c1)) ?_ | refine LOps.whenC (LVal.call rfl rfl (by rw [hP]; exact Try.func20) rfl (by decide) (c2)) ?_ | refine LOps.valA ?_ | refine LOps.outA ?_ | refine LOps.whenA ?_ | refine LOps.pickA ?_)
    refine LOps.storeA (b := b4) (off := 0) (cs := leafL noLeaf) (l := leafL l) ?_
    refine LOps.gen (fun S' => S.le S' ∧ S'.box b2 = some (leafL l) ∧ S'.box b3 = some ([iv x, u64 y]) ∧ S'.box b4 = some (leafL l) ∧ S'.box b5 = some (leafL noLeaf) ∧ S'.box b6 = some (markL noMark)) ⟨hle.setBox s4 _, (box_set_ne _ _ n2_4).trans k2, (box_set_ne _ _ n3_4).trans k3, (box_set _ _ _).trans (congrArg some (stLeaf _ _)), (box_set_ne _ _ m5_4).trans k5, (box_set_ne _ _ m6_4).trans k6⟩ ?_
    clear hle k2 k3 k4 k5 k6
    rintro Ss ⟨hle, k2, k3, k4, k5, k6⟩
    refine LOps.storeA (b := b5) (off := 0) (cs := leafL noLeaf) (l := lzero ti45) ?_
    refine LOps.gen (fun S' => S.le S' ∧ S'.box b2 = some (leafL l) ∧ S'.box b3 = some ([iv x, u64 y]) ∧ S'.box b4 = some (leafL l) ∧ S'.box b5 = some (leafL noLeaf) ∧ S'.box b6 = some (markL noMark)) ⟨hle.setBox s5 _, (box_set_ne _ _ n2_5).trans k2, (box_set_ne _ _ n3_5).trans k3, (box_set_ne _ _ n4_5).trans k4, (box_set _ _ _).trans (congrArg some (stZ')), (box_set_ne _ _ m6_5).trans k6⟩ ?_
    clear hle k2 k3 k4 k5 k6
    rintro Ss ⟨hle, k2, k3, k4, k5, k6⟩
    refine LOps.storeA (b := b6) (off := 0) (cs := markL noMark) (l := markL noMark) ?_
    refine LOps.gen (fun S' => S.le S' ∧ S'.box b2 = some (leafL l) ∧ S'.box b3 = some ([iv x, u64 y]) ∧ S'.box b4 = some (leafL l) ∧ S'.box b5 = some (leafL noLeaf) ∧ S'.box b6 = some (markL noMark)) ⟨hle.setBox s6 _, (box_set_ne _ _ n2_6).trans k2, (box_set_ne _ _ n3_6).trans k3, (box_set_ne _ _ n4_6).trans k4, (box_set_ne _ _ n5_6).trans k5, (box_set _ _ _).trans (congrArg some (rfl))⟩ ?_
    clear hle k2 k3 k4 k5 k6
    rintro Ss ⟨hle, k2, k3, k4, k5, k6⟩
    repeat (first | refine LOps.nil ?_ | refine andThen_normal ?_ | refine andThen_exit ?_ | refine andThen_ret ?_ | refine inBlock_normal ?_ | refine inBlock_ret ?_ | refine inBlock_here ?_ | refine inBlock_out rfl ?_ | refine LWp.seq ?_ | refine LWp.region ?_ | refine LWp.block ?_ | refine LWp.exit ?_ | refine LWp.ret ?_ | refine LWp.skip ?_ | refine LOps.valA ?_ | refine LOps.outA ?_ | refine LOps.whenA ?_ | refine LOps.pickA ?_ | refine LOps.storeA ?_)
    exact ⟨_, splitRes rfl (hP ▸ tok45) rfl rfl (hP ▸ tok40) rfl rfl rfl k4 rfl k5 rfl k6, rfl, hle⟩
  | true =>
  have hf := (fit_iff l).1 hr
  have hn := hf.le
  have hu : usesL l = useOf l (l.p % 16) := by unfold usesL usedN; rw [rt_yes hf.rt]; rfl
  have hln := useOf_len l (l.p % 16)
  have hget := fun j hj => useOf_get l (n := l.p % 16) (j := j) hj
  rw [hu] at c1
  rw [hr] at c2
  generalize hL : useOf l (l.p % 16) = L at *
  have hls : (sList L).length = l.p % 16 := by rw [List.length_map, hln]
  by_cases h2 : l.p % 16 < 2
  · have e : splitL l x y = (l, noLeaf, noMark) := by unfold splitL; rw [if_neg (fun h => by omega)]
    rw [e]
    repeat (first | refine LOps.valH (LVal.call rfl rfl (by rw [hP]; exact Try.func26) rfl (by decide) (c1)) ?_ | refine LOps.valH (LVal.call rfl rfl (by rw [hP]; exact Try.func20) rfl (by decide) (c2)) ?_ | refine LOps.valH (LVal.load hD rfl rfl k2 rfl (rdLeaf l)) ?_ | refine LWp.condT rfl ?_ | refine LOps.val (LVal.build (l := lzero ti45) hD rfl rfl rfl rfl rfl rfl rfl) rfl rfl rfl ?_ | refine LOps.valH (LVal.to (LVal.binOp hD rfl rfl rfl rfl) (r' := .one (.v (.bool true))) (congrArg (fun b => TV.one (.v (.bool b))) (by first | exact decide_eq_true (by omega) | (rw [beq_iff_eq]; omega) | (rw [bne_iff_ne]; omega)))) ?_ | refine LOps.valH (LVal.to (LVal.binOp hD rfl rfl rfl rfl) (r' := .one (.v (.bool false))) (congrArg (fun b => TV.one (.v (.bool b))) (by first | exact decide_eq_false (by omega) | (rw [beq_eq_false_iff_ne]; omega) | (rw [bne_eq_false_iff_eq]; omega)))) ?_ | refine LOps.valW ?_ | refine LOps.nil ?_ | refine andThen_normal ?_ | refine andThen_exit ?_ | refine andThen_ret ?_ | refine inBlock_normal ?_ | refine inBlock_ret ?_ | refine inBlock_here ?_ | refine inBlock_out rfl ?_ | refine LWp.seq ?_ | refine LWp.region ?_ | refine LWp.block ?_ | refine LWp.exit ?_ | refine LWp.ret ?_ | refine LWp.skip ?_ | refine LOps.val (LVal.call rfl rfl (by rw [hP]; exact Try.func26) rfl (by decide) (c1)) rfl rfl rfl ?_ | refine LOps.val (LVal.call rfl rfl (by rw [hP]; exact Try.func20) rfl (by decide) (c2)) rfl rfl rfl ?_ | refine LOps.whenC (LVal.call rfl rfl (by rw [hP]; exact Try.func26) rfl (by decide) (c1)) ?_ | refine LOps.whenC (LVal.call rfl rfl (by rw [hP]; exact Try.func20) rfl (by decide) (c2)) ?_ | refine LOps.valA ?_ | refine LOps.outA ?_ | refine LOps.whenA ?_ | refine LOps.pickA ?_)
    refine LOps.storeA (b := b4) (off := 0) (cs := leafL noLeaf) (l := leafL l) ?_
    refine LOps.gen (fun S' => S.le S' ∧ S'.box b2 = some (leafL l) ∧ S'.box b3 = some ([iv x, u64 y]) ∧ S'.box b4 = some (leafL l) ∧ S'.box b5 = some (leafL noLeaf) ∧ S'.box b6 = some (markL noMark)) ⟨hle.setBox s4 _, (box_set_ne _ _ n2_4).trans k2, (box_set_ne _ _ n3_4).trans k3, (box_set _ _ _).trans (congrArg some (stLeaf _ _)), (box_set_ne _ _ m5_4).trans k5, (box_set_ne _ _ m6_4).trans k6⟩ ?_
    clear hle k2 k3 k4 k5 k6
    rintro Ss ⟨hle, k2, k3, k4, k5, k6⟩
    refine LOps.storeA (b := b5) (off := 0) (cs := leafL noLeaf) (l := lzero ti45) ?_
    refine LOps.gen (fun S' => S.le S' ∧ S'.box b2 = some (leafL l) ∧ S'.box b3 = some ([iv x, u64 y]) ∧ S'.box b4 = some (leafL l) ∧ S'.box b5 = some (leafL noLeaf) ∧ S'.box b6 = some (markL noMark)) ⟨hle.setBox s5 _, (box_set_ne _ _ n2_5).trans k2, (box_set_ne _ _ n3_5).trans k3, (box_set_ne _ _ n4_5).trans k4, (box_set _ _ _).trans (congrArg some (stZ')), (box_set_ne _ _ m6_5).trans k6⟩ ?_
    clear hle k2 k3 k4 k5 k6
    rintro Ss ⟨hle, k2, k3, k4, k5, k6⟩
    refine LOps.storeA (b := b6) (off := 0) (cs := markL noMark) (l := markL noMark) ?_
    refine LOps.gen (fun S' => S.le S' ∧ S'.box b2 = some (leafL l) ∧ S'.box b3 = some ([iv x, u64 y]) ∧ S'.box b4 = some (leafL l) ∧ S'.box b5 = some (leafL noLeaf) ∧ S'.box b6 = some (markL noMark)) ⟨hle.setBox s6 _, (box_set_ne _ _ n2_6).trans k2, (box_set_ne _ _ n3_6).trans k3, (box_set_ne _ _ n4_6).trans k4, (box_set_ne _ _ n5_6).trans k5, (box_set _ _ _).trans (congrArg some (rfl))⟩ ?_
    clear hle k2 k3 k4 k5 k6
    rintro Ss ⟨hle, k2, k3, k4, k5, k6⟩
    repeat (first | refine LOps.nil ?_ | refine andThen_normal ?_ | refine andThen_exit ?_ | refine andThen_ret ?_ | refine inBlock_normal ?_ | refine inBlock_ret ?_ | refine inBlock_here ?_ | refine inBlock_out rfl ?_ | refine LWp.seq ?_ | refine LWp.region ?_ | refine LWp.block ?_ | refine LWp.exit ?_ | refine LWp.ret ?_ | refine LWp.skip ?_ | refine LOps.valA ?_ | refine LOps.outA ?_ | refine LOps.whenA ?_ | refine LOps.pickA ?_ | refine LOps.storeA ?_)
    exact ⟨_, splitRes rfl (hP ▸ tok45) rfl rfl (hP ▸ tok40) rfl rfl rfl k4 rfl k5 rfl k6, rfl, hle⟩
  have e : splitL l x y = (leftEnd l x y, rightEnd l, (l.rank (l.p % 16 / 2)).m) := by unfold splitL; rw [if_pos ⟨hr, by omega⟩]
  rw [e]
  obtain ⟨n, hnn⟩ : ∃ n, n = l.p % 16 := ⟨_, rfl⟩
  rw [← hnn] at hls hget h2 hn
  repeat (first | refine LOps.valH (LVal.call rfl rfl (by rw [hP]; exact Try.func26) rfl (by decide) (c1)) ?_ | refine LOps.valH (LVal.call rfl rfl (by rw [hP]; exact Try.func20) rfl (by decide) (c2)) ?_ | refine LOps.valH (LVal.call rfl rfl (by rw [hP]; exact Try.func44) rfl (by decide) (c3)) ?_ | refine LOps.valH (LVal.load hD rfl rfl k2 rfl (rdLeaf l)) ?_ | refine LWp.condF rfl ?_ | refine LOps.val (LVal.to (LVal.quo64 rfl rfl rfl (by omega)) (r' := .one (iv ((n / 2 : Nat) : Int))) (congrArg (fun z => TV.one (iv z)) (by omega))) rfl rfl rfl ?_ | refine LOps.valH (LVal.to (LVal.binOp hD rfl rfl rfl rfl) (r' := .one (.v (.bool true))) (congrArg (fun b => TV.one (.v (.bool b))) (by first | exact decide_eq_true (by omega) | (rw [beq_iff_eq]; omega) | (rw [bne_iff_ne]; omega)))) ?_ | refine LOps.valH (LVal.to (LVal.binOp hD rfl rfl rfl rfl) (r' := .one (.v (.bool false))) (congrArg (fun b => TV.one (.v (.bool b))) (by first | exact decide_eq_false (by omega) | (rw [beq_eq_false_iff_ne]; omega) | (rw [bne_eq_false_iff_eq]; omega)))) ?_ | refine LOps.valW ?_ | refine LOps.nil ?_ | refine andThen_normal ?_ | refine andThen_exit ?_ | refine andThen_ret ?_ | refine inBlock_normal ?_ | refine inBlock_ret ?_ | refine inBlock_here ?_ | refine inBlock_out rfl ?_ | refine LWp.seq ?_ | refine LWp.region ?_ | refine LWp.block ?_ | refine LWp.exit ?_ | refine LWp.ret ?_ | refine LWp.skip ?_ | refine LOps.val (LVal.call rfl rfl (by rw [hP]; exact Try.func26) rfl (by decide) (c1)) rfl rfl rfl ?_ | refine LOps.val (LVal.call rfl rfl (by rw [hP]; exact Try.func20) rfl (by decide) (c2)) rfl rfl rfl ?_ | refine LOps.val (LVal.call rfl rfl (by rw [hP]; exact Try.func44) rfl (by decide) (c3)) rfl rfl rfl ?_ | refine LOps.whenC (LVal.call rfl rfl (by rw [hP]; exact Try.func26) rfl (by decide) (c1)) ?_ | refine LOps.whenC (LVal.call rfl rfl (by rw [hP]; exact Try.func20) rfl (by decide) (c2)) ?_ | refine LOps.whenC (LVal.call rfl rfl (by rw [hP]; exact Try.func44) rfl (by decide) (c3)) ?_ | refine LOps.valA ?_ | refine LOps.outA ?_ | refine LOps.whenA ?_ | refine LOps.pickA ?_ | refine LOps.storeA ?_)
  skip
  refine LOps.do (LDo.alloc hD rfl rfl rfl) rfl rfl rfl ?_
  rintro _ _ ⟨b9, hb9, rfl, rfl⟩
  have n2_9 := fresh_ne hb9 k2
  have m9_2 := n2_9.symm
  have n3_9 := fresh_ne hb9 k3
  have m9_3 := n3_9.symm
  have n4_9 := fresh_ne hb9 k4
  have m9_4 := n4_9.symm
  have n5_9 := fresh_ne hb9 k5
  have m9_5 := n5_9.symm
  have n6_9 := fresh_ne hb9 k6
  have m9_6 := n6_9.symm
  have s9 := hle.none hb9
  refine LOps.gen (fun S' => S.le S' ∧ S'.box b2 = some (leafL l) ∧ S'.box b3 = some ([iv x, u64 y]) ∧ S'.box b4 = some (leafL noLeaf) ∧ S'.box b5 = some (leafL noLeaf) ∧ S'.box b6 = some (markL noMark) ∧ S'.box b9 = some (leafL noLeaf)) ⟨hle.newBox hb9 _, (box_new_ne _ _ n2_9).trans k2, (box_new_ne _ _ n3_9).trans k3, (box_new_ne _ _ n4_9).trans k4, (box_new_ne _ _ n5_9).trans k5, (box_new_ne _ _ n6_9).trans k6, (box_new _ _ _).trans (congrArg some zeroLeaf')⟩ ?_
  clear hle hb9 k2 k3 k4 k5 k6
  rintro S9 ⟨hle, k2, k3, k4, k5, k6, k9⟩
  refine LOps.storeA (b := b9) (off := 0) (cs := leafL noLeaf) (l := leafL newL) ?_
  refine LOps.gen (fun S' => S.le S' ∧ S'.box b2 = some (leafL l) ∧ S'.box b3 = some ([iv x, u64 y]) ∧ S'.box b4 = some (leafL noLeaf) ∧ S'.box b5 = some (leafL noLeaf) ∧ S'.box b6 = some (markL noMark) ∧ S'.box b9 = some (leafL newL)) ⟨hle.setBox s9 _, (box_set_ne _ _ n2_9).trans k2, (box_set_ne _ _ n3_9).trans k3, (box_set_ne _ _ n4_9).trans k4, (box_set_ne _ _ n5_9).trans k5, (box_set_ne _ _ n6_9).trans k6, (box_set _ _ _).trans (congrArg some (stLeaf _ _))⟩ ?_
  clear hle k2 k3 k4 k5 k6 k9
  rintro Ss ⟨hle, k2, k3, k4, k5, k6, k9⟩
  repeat (first | refine LOps.valH (LVal.load hD rfl rfl k2 rfl (rdHigh l)) ?_ | refine LOps.nil ?_ | refine andThen_normal ?_ | refine andThen_exit ?_ | refine andThen_ret ?_ | refine inBlock_normal ?_ | refine inBlock_ret ?_ | refine inBlock_here ?_ | refine inBlock_out rfl ?_ | refine LWp.seq ?_ | refine LWp.region ?_ | refine LWp.block ?_ | refine LWp.exit ?_ | refine LWp.ret ?_ | refine LWp.skip ?_ | refine LOps.valA ?_ | refine LOps.outA ?_ | refine LOps.whenA ?_ | refine LOps.pickA ?_)
  refine LOps.storeA (b := b9) (off := 106) (cs := leafL newL) (l := markL l.high) ?_
  refine LOps.gen (fun S' => S.le S' ∧ S'.box b2 = some (leafL l) ∧ S'.box b3 = some ([iv x, u64 y]) ∧ S'.box b4 = some (leafL noLeaf) ∧ S'.box b5 = some (leafL noLeaf) ∧ S'.box b6 = some (markL noMark) ∧ S'.box b9 = some (leafL { newL with high := l.high })) ⟨hle.setBox s9 _, (box_set_ne _ _ n2_9).trans k2, (box_set_ne _ _ n3_9).trans k3, (box_set_ne _ _ n4_9).trans k4, (box_set_ne _ _ n5_9).trans k5, (box_set_ne _ _ n6_9).trans k6, (box_set _ _ _).trans (congrArg some (stHigh _ _))⟩ ?_
  clear hle k2 k3 k4 k5 k6 k9
  rintro Ss ⟨hle, k2, k3, k4, k5, k6, k9⟩
  repeat (first | refine LOps.valH (LVal.load hD rfl rfl k2 rfl (rdBounded l)) ?_ | refine LOps.nil ?_ | refine andThen_normal ?_ | refine andThen_exit ?_ | refine andThen_ret ?_ | refine inBlock_normal ?_ | refine inBlock_ret ?_ | refine inBlock_here ?_ | refine inBlock_out rfl ?_ | refine LWp.seq ?_ | refine LWp.region ?_ | refine LWp.block ?_ | refine LWp.exit ?_ | refine LWp.ret ?_ | refine LWp.skip ?_ | refine LOps.valA ?_ | refine LOps.outA ?_ | refine LOps.whenA ?_ | refine LOps.pickA ?_)
  refine LOps.storeA (b := b9) (off := 108) (cs := leafL { newL with high := l.high }) (l := [bv l.bounded]) ?_
  refine LOps.gen (fun S' => S.le S' ∧ S'.box b2 = some (leafL l) ∧ S'.box b3 = some ([iv x, u64 y]) ∧ S'.box b4 = some (leafL noLeaf) ∧ S'.box b5 = some (leafL noLeaf) ∧ S'.box b6 = some (markL noMark) ∧ S'.box b9 = some (leafL { newL with high := l.high, bounded := l.bounded })) ⟨hle.setBox s9 _, (box_set_ne _ _ n2_9).trans k2, (box_set_ne _ _ n3_9).trans k3, (box_set_ne _ _ n4_9).trans k4, (box_set_ne _ _ n5_9).trans k5, (box_set_ne _ _ n6_9).trans k6, (box_set _ _ _).trans (congrArg some (stBounded _ _))⟩ ?_
  clear hle k2 k3 k4 k5 k6 k9
  rintro Ss ⟨hle, k2, k3, k4, k5, k6, k9⟩
  repeat (first | refine LOps.valH (LVal.load hD rfl rfl k2 rfl (rdNext l)) ?_ | refine LOps.nil ?_ | refine andThen_normal ?_ | refine andThen_exit ?_ | refine andThen_ret ?_ | refine inBlock_normal ?_ | refine inBlock_ret ?_ | refine inBlock_here ?_ | refine inBlock_out rfl ?_ | refine LWp.seq ?_ | refine LWp.region ?_ | refine LWp.block ?_ | refine LWp.exit ?_ | refine LWp.ret ?_ | refine LWp.skip ?_ | refine LOps.valA ?_ | refine LOps.outA ?_ | refine LOps.whenA ?_ | refine LOps.pickA ?_)
  refine LOps.storeA (b := b9) (off := 109) (cs := leafL { newL with high := l.high, bounded := l.bounded }) (l := [iv l.ns, u64 l.ng]) ?_
  refine LOps.gen (fun S' => S.le S' ∧ S'.box b2 = some (leafL l) ∧ S'.box b3 = some ([iv x, u64 y]) ∧ S'.box b4 = some (leafL noLeaf) ∧ S'.box b5 = some (leafL noLeaf) ∧ S'.box b6 = some (markL noMark) ∧ S'.box b9 = some (leafL (right0 l))) ⟨hle.setBox s9 _, (box_set_ne _ _ n2_9).trans k2, (box_set_ne _ _ n3_9).trans k3, (box_set_ne _ _ n4_9).trans k4, (box_set_ne _ _ n5_9).trans k5, (box_set_ne _ _ n6_9).trans k6, (box_set _ _ _).trans (congrArg some (stNext _ _ _))⟩ ?_
  clear hle k2 k3 k4 k5 k6 k9
  rintro Ss ⟨hle, k2, k3, k4, k5, k6, k9⟩
  repeat (first | refine LOps.nil ?_ | refine andThen_normal ?_ | refine andThen_exit ?_ | refine andThen_ret ?_ | refine inBlock_normal ?_ | refine inBlock_ret ?_ | refine inBlock_here ?_ | refine inBlock_out rfl ?_ | refine LWp.seq ?_ | refine LWp.region ?_ | refine LWp.block ?_ | refine LWp.exit ?_ | refine LWp.ret ?_ | refine LWp.skip ?_ | refine LOps.valA ?_ | refine LOps.outA ?_ | refine LOps.whenA ?_ | refine LOps.pickA ?_ | refine LOps.storeA ?_)
  refine LWp.loop (fun m T S' => ∃ (T' : Nat → TV) (k : Nat), k ≤ n - n / 2 ∧ m = n - n / 2 - k ∧ S.le S' ∧ S'.box b2 = some (leafL l) ∧ S'.box b3 = some [iv x, u64 y] ∧ S'.box b4 = some (leafL noLeaf) ∧ S'.box b5 = some (leafL noLeaf) ∧ S'.box b6 = some (markL noMark) ∧ S'.box b9 = some (leafL (rightIt l k)) ∧ T = over T' [(2, ptr b2), (3, ptr b3), (4, ptr b4), (5, ptr b5), (6, ptr b6), (7, .one (.sl .sh (sList L))), (8, .one (iv ((n / 2 : Nat) : Int))), (9, ptr b9), (10, .one (iv ((n / 2 + k : Nat) : Int)))]) (n - n / 2) ?_ ?_
  · exact ⟨_, 0, by omega, rfl, hle, k2, k3, k4, k5, k6, k9, holds.over ⟨rfl, rfl, rfl, rfl, rfl, rfl, rfl, rfl, rfl, trivial⟩⟩
  clear hle k2 k3 k4 k5 k6 k9
  rintro m T S9 ⟨T', k, hk, rfl, hle, k2, k3, k4, k5, k6, k9, rfl⟩
  repeat (first | refine LOps.nil ?_ | refine andThen_normal ?_ | refine andThen_exit ?_ | refine andThen_ret ?_ | refine inBlock_normal ?_ | refine inBlock_ret ?_ | refine inBlock_here ?_ | refine inBlock_out rfl ?_ | refine LWp.seq ?_ | refine LWp.region ?_ | refine LWp.block ?_ | refine LWp.exit ?_ | refine LWp.ret ?_ | refine LWp.skip ?_ | refine LOps.valA ?_ | refine LOps.outA ?_ | refine LOps.whenA ?_ | refine LOps.pickA ?_ | refine LOps.storeA ?_)
  refine LWp.cond rfl (fun h => ?_) (fun h => ?_)
  · have hlt : n / 2 + k < n := by
      have h : decide (((n / 2 + k : Nat) : Int) < (((sList L).length : Nat) : Int)) = true := h
      rw [decide_eq_true_iff, hls] at h; omega
    clear h
    have ra := rightIt_at hf hl k (by omega)
    have r2 := refPut_L hP (rightIt l k) ra.ok (l.rank (n / 2 + k)) (rank_ok hl (rt_yes hf.rt) (by omega))
    have e2 : (putL (rightIt l k) (l.rank (n / 2 + k))).1 = rightIt l (k + 1) := by rw [hnn]; rfl
    rw [e2] at r2
    have hUk := hget (n / 2 + k) hlt
    repeat (first | refine LOps.nil ?_ | refine andThen_normal ?_ | refine andThen_exit ?_ | refine andThen_ret ?_ | refine inBlock_normal ?_ | refine inBlock_ret ?_ | refine inBlock_here ?_ | refine inBlock_out rfl ?_ | refine LWp.seq ?_ | refine LWp.region ?_ | refine LWp.block ?_ | refine LWp.exit ?_ | refine LWp.ret ?_ | refine LWp.skip ?_ | refine LOps.valA ?_ | refine LOps.outA ?_ | refine LOps.whenA ?_ | refine LOps.pickA ?_ | refine LOps.storeA ?_)
    refine LWp.drawF (fun q _ => q = 8 ∨ q = 9) [0, 1, 2, 3, 4, 5, 6, 7, 8, 9, 10] (by rw [hP]; rfl) rfl ?_
    repeat (first | refine LRl.valH (LVal.load hD rfl rfl k9 rfl (rdLeaf (rightIt l k))) ?_ (fun _ hS => LVal.load hD rfl rfl (hS.box _ _ k9 (by first | exact id | (intro hx; rcases hx with hx | hx <;> omega) | (intro hx; have hx2 : _ = _ := hx; omega) | (intro hx; exact absurd hx.1 (by decide)))) rfl (rdLeaf (rightIt l k))) | refine LRl.val (fun _ _ => LVal.indexLit hD rfl rfl rfl (n := n / 2 + k) rfl rfl rfl rfl hUk rfl) rfl rfl rfl ?_ | refine LRl.valC (fun _ => (LVal.call rfl rfl (by rw [hP]; exact Try.func40) rfl (by decide) (r2))) ?_ | refine LRl.whenC (fun _ => (LVal.call rfl rfl (by rw [hP]; exact Try.func40) rfl (by decide) (r2))) ?_ | refine LRl.nil ?_ | refine LRl.valA ?_ | refine LRl.outA ?_ | refine LRl.whenA ?_ | refine LRl.pickA ?_)
    refine LRl.actA0 (LDo.store hD rfl rfl (k9) rfl rfl rfl rfl).toAct rfl rfl rfl (by
      rintro _ _ ⟨rfl, rfl⟩ q hq
      rcases (by omega : q = 0 ∨ q = 1 ∨ q = 2 ∨ q = 3 ∨ q = 4 ∨ q = 5 ∨ q = 6 ∨ q = 7 ∨ q = 8 ∨ q = 9) with h | h | h | h | h | h | h | h | h | h <;> subst h <;> first | exact .inr rfl | exact .inl (LS.leX.setBox (by omega) _)) ?_
    rintro _ _ ⟨rfl, rfl⟩
    repeat (first | refine LRl.nil ?_ | refine LRl.valA ?_ | refine LRl.outA ?_ | refine LRl.whenA ?_ | refine LRl.pickA ?_)
    refine LWp.gen (fun S' => S.le S' ∧ S'.box b2 = some (leafL l) ∧ S'.box b3 = some [iv x, u64 y] ∧ S'.box b4 = some (leafL noLeaf) ∧ S'.box b5 = some (leafL noLeaf) ∧ S'.box b6 = some (markL noMark) ∧ S'.box b9 = some (leafL (rightIt l (k + 1)))) ⟨hle.setBox s9 _, (box_set_ne _ _ n2_9).trans k2, (box_set_ne _ _ n3_9).trans k3, (box_set_ne _ _ n4_9).trans k4, (box_set_ne _ _ n5_9).trans k5, (box_set_ne _ _ n6_9).trans k6, (box_set _ _ _).trans (congrArg some (stLeaf _ _))⟩ ?_
    clear hle k2 k3 k4 k5 k6 k9
    rintro S10 ⟨hle, k2, k3, k4, k5, k6, k9⟩
    repeat (first | refine LOps.nil ?_ | refine andThen_normal ?_ | refine andThen_exit ?_ | refine andThen_ret ?_ | refine inBlock_normal ?_ | refine inBlock_ret ?_ | refine inBlock_here ?_ | refine inBlock_out rfl ?_ | refine LWp.seq ?_ | refine LWp.region ?_ | refine LWp.block ?_ | refine LWp.exit ?_ | refine LWp.ret ?_ | refine LWp.skip ?_ | refine LOps.valA ?_ | refine LOps.outA ?_ | refine LOps.whenA ?_ | refine LOps.pickA ?_ | refine LOps.storeA ?_)
    exact ⟨n - n / 2 - (k + 1), by omega, _, k + 1, by omega, rfl, hle, k2, k3, k4, k5, k6, k9, holds.over ⟨rfl, rfl, rfl, rfl, rfl, rfl, rfl, rfl, congrArg (fun q => TV.one (iv q)) (show ((n / 2 + k : Nat) : Int) + 1 = ((n / 2 + (k + 1) : Nat) : Int) by omega), trivial⟩⟩
  have hge : k = n - n / 2 := by
    have h : decide (((n / 2 + k : Nat) : Int) < (((sList L).length : Nat) : Int)) = false := h
    rw [decide_eq_false_iff_not, hls] at h; omega
  subst hge
  clear h hk
  have k9 : S9.box b9 = some (leafL (rightEnd l)) := k9.trans (by rw [hnn]; rfl)
  repeat (first | refine LOps.nil ?_ | refine andThen_normal ?_ | refine andThen_exit ?_ | refine andThen_ret ?_ | refine inBlock_normal ?_ | refine inBlock_ret ?_ | refine inBlock_here ?_ | refine inBlock_out rfl ?_ | refine LWp.seq ?_ | refine LWp.region ?_ | refine LWp.block ?_ | refine LWp.exit ?_ | refine LWp.ret ?_ | refine LWp.skip ?_ | refine LOps.valA ?_ | refine LOps.outA ?_ | refine LOps.whenA ?_ | refine LOps.pickA ?_ | refine LOps.storeA ?_)
  refine LWp.loop (fun m T S' => ∃ (T' : Nat → TV) (k : Nat), k ≤ n - n / 2 ∧ m = n - n / 2 - k ∧ S.le S' ∧ S'.box b2 = some (leafL (leftIt l k)) ∧ S'.box b3 = some [iv x, u64 y] ∧ S'.box b4 = some (leafL noLeaf) ∧ S'.box b5 = some (leafL noLeaf) ∧ S'.box b6 = some (markL noMark) ∧ S'.box b9 = some (leafL (rightEnd l)) ∧ T = over T' [(2, ptr b2), (3, ptr b3), (4, ptr b4), (5, ptr b5), (6, ptr b6), (7, .one (.sl .sh (sList L))), (8, .one (iv ((n / 2 : Nat) : Int))), (9, ptr b9), (11, .one (iv ((n : Int) - 1 - (k : Nat))))]) (n - n / 2) ?_ ?_
  · exact ⟨_, 0, by omega, rfl, hle, k2, k3, k4, k5, k6, k9, holds.over ⟨rfl, rfl, rfl, rfl, rfl, rfl, rfl, rfl, congrArg (fun q => TV.one (iv q)) (by rw [hls]; omega), trivial⟩⟩
  clear hle k2 k3 k4 k5 k6 k9
  rintro m T S11 ⟨T', k, hk, rfl, hle, k2, k3, k4, k5, k6, k9, rfl⟩
  repeat (first | refine LOps.nil ?_ | refine andThen_normal ?_ | refine andThen_exit ?_ | refine andThen_ret ?_ | refine inBlock_normal ?_ | refine inBlock_ret ?_ | refine inBlock_here ?_ | refine inBlock_out rfl ?_ | refine LWp.seq ?_ | refine LWp.region ?_ | refine LWp.block ?_ | refine LWp.exit ?_ | refine LWp.ret ?_ | refine LWp.skip ?_ | refine LOps.valA ?_ | refine LOps.outA ?_ | refine LOps.whenA ?_ | refine LOps.pickA ?_ | refine LOps.storeA ?_)
  refine LWp.cond rfl (fun h => ?_) (fun h => ?_)
  · have hlt : k < n - n / 2 := by
      have h : decide ((n : Int) - 1 - (k : Nat) ≥ ((n / 2 : Nat) : Int)) = true := h
      rw [decide_eq_true_iff] at h; omega
    clear h
    have la := leftIt_at hf hl k (by omega)
    have hro : (l.rank (n - 1 - k)).m.ok := rank_ok hl (rt_yes hf.rt) (by omega)
    have r5 := refDel_L hP (leftIt l k) la.ok (l.rank (n - 1 - k)).m hro
    have e5 : (delL (leftIt l k) (l.rank (n - 1 - k)).m).1 = leftIt l (k + 1) := by rw [hnn]; rfl
    rw [e5] at r5
    have hUk := hget (n - 1 - k) (by omega)
    repeat (first | refine LOps.nil ?_ | refine andThen_normal ?_ | refine andThen_exit ?_ | refine andThen_ret ?_ | refine inBlock_normal ?_ | refine inBlock_ret ?_ | refine inBlock_here ?_ | refine inBlock_out rfl ?_ | refine LWp.seq ?_ | refine LWp.region ?_ | refine LWp.block ?_ | refine LWp.exit ?_ | refine LWp.ret ?_ | refine LWp.skip ?_ | refine LOps.valA ?_ | refine LOps.outA ?_ | refine LOps.whenA ?_ | refine LOps.pickA ?_ | refine LOps.storeA ?_)
    refine LWp.drawF (fun q _ => q = 9 ∨ q = 10) [0, 1, 2, 3, 4, 5, 6, 7, 8, 9, 10, 11] (by rw [hP]; rfl) rfl ?_
    repeat (first | refine LRl.valH (LVal.load hD rfl rfl k2 rfl (rdLeaf (leftIt l k))) ?_ (fun _ hS => LVal.load hD rfl rfl (hS.box _ _ k2 (by first | exact id | (intro hx; rcases hx with hx | hx <;> omega) | (intro hx; have hx2 : _ = _ := hx; omega) | (intro hx; exact absurd hx.1 (by decide)))) rfl (rdLeaf (leftIt l k))) | refine LRl.val (fun _ _ => LVal.indexLit hD rfl rfl rfl (n := n - 1 - k) (by omega) rfl rfl rfl hUk rfl) rfl rfl rfl ?_ | refine LRl.valC (fun _ => (LVal.call rfl rfl (by rw [hP]; exact Try.func41) rfl (by decide) (r5))) ?_ | refine LRl.whenC (fun _ => (LVal.call rfl rfl (by rw [hP]; exact Try.func41) rfl (by decide) (r5))) ?_ | refine LRl.nil ?_ | refine LRl.valA ?_ | refine LRl.outA ?_ | refine LRl.whenA ?_ | refine LRl.pickA ?_)
    refine LRl.actA0 (LDo.store hD rfl rfl (k2) rfl rfl rfl rfl).toAct rfl rfl rfl (by
      rintro _ _ ⟨rfl, rfl⟩ q hq
      rcases (by omega : q = 0 ∨ q = 1 ∨ q = 2 ∨ q = 3 ∨ q = 4 ∨ q = 5 ∨ q = 6 ∨ q = 7 ∨ q = 8 ∨ q = 9 ∨ q = 10) with h | h | h | h | h | h | h | h | h | h | h <;> subst h <;> first | exact .inr rfl | exact .inl (LS.leX.setBox (by omega) _)) ?_
    rintro _ _ ⟨rfl, rfl⟩
    repeat (first | refine LRl.nil ?_ | refine LRl.valA ?_ | refine LRl.outA ?_ | refine LRl.whenA ?_ | refine LRl.pickA ?_)
    refine LWp.gen (fun S' => S.le S' ∧ S'.box b2 = some (leafL (leftIt l (k + 1))) ∧ S'.box b3 = some [iv x, u64 y] ∧ S'.box b4 = some (leafL noLeaf) ∧ S'.box b5 = some (leafL noLeaf) ∧ S'.box b6 = some (markL noMark) ∧ S'.box b9 = some (leafL (rightEnd l))) ⟨hle.setBox s2 _, (box_set _ _ _).trans (congrArg some (stLeaf _ _)), (box_set_ne _ _ m3_2).trans k3, (box_set_ne _ _ m4_2).trans k4, (box_set_ne _ _ m5_2).trans k5, (box_set_ne _ _ m6_2).trans k6, (box_set_ne _ _ m9_2).trans k9⟩ ?_
    clear hle k2 k3 k4 k5 k6 k9
    rintro S12 ⟨hle, k2, k3, k4, k5, k6, k9⟩
    repeat (first | refine LOps.nil ?_ | refine andThen_normal ?_ | refine andThen_exit ?_ | refine andThen_ret ?_ | refine inBlock_normal ?_ | refine inBlock_ret ?_ | refine inBlock_here ?_ | refine inBlock_out rfl ?_ | refine LWp.seq ?_ | refine LWp.region ?_ | refine LWp.block ?_ | refine LWp.exit ?_ | refine LWp.ret ?_ | refine LWp.skip ?_ | refine LOps.valA ?_ | refine LOps.outA ?_ | refine LOps.whenA ?_ | refine LOps.pickA ?_ | refine LOps.storeA ?_)
    exact ⟨n - n / 2 - (k + 1), by omega, _, k + 1, by omega, rfl, hle, k2, k3, k4, k5, k6, k9, holds.over ⟨rfl, rfl, rfl, rfl, rfl, rfl, rfl, rfl, congrArg (fun q => TV.one (iv q)) (show (n : Int) - 1 - (k : Nat) - 1 = (n : Int) - 1 - ((k + 1 : Nat) : Int) by omega), trivial⟩⟩
  have hge : k = n - n / 2 := by
    have h : decide ((n : Int) - 1 - (k : Nat) ≥ ((n / 2 : Nat) : Int)) = false := h
    rw [decide_eq_false_iff_not] at h; omega
  clear h
  have hUk := hget (n / 2) (by omega)
  obtain ⟨L0, hL0⟩ : ∃ L0, L0 = leftIt l k := ⟨_, rfl⟩
  rw [← hL0] at k2
  repeat (first | refine LOps.val (LVal.indexLit hD rfl rfl rfl (n := n / 2) rfl rfl rfl rfl hUk rfl) rfl rfl rfl ?_ | refine LOps.nil ?_ | refine andThen_normal ?_ | refine andThen_exit ?_ | refine andThen_ret ?_ | refine inBlock_normal ?_ | refine inBlock_ret ?_ | refine inBlock_here ?_ | refine inBlock_out rfl ?_ | refine LWp.seq ?_ | refine LWp.region ?_ | refine LWp.block ?_ | refine LWp.exit ?_ | refine LWp.ret ?_ | refine LWp.skip ?_ | refine LOps.valA ?_ | refine LOps.outA ?_ | refine LOps.whenA ?_ | refine LOps.pickA ?_)
  refine LOps.storeA (b := b2) (off := 106) (cs := leafL L0) (l := markL (l.rank (n / 2)).m) ?_
  refine LOps.gen (fun S' => S.le S' ∧ S'.box b2 = some (leafL { L0 with high := (l.rank (n / 2)).m }) ∧ S'.box b3 = some ([iv x, u64 y]) ∧ S'.box b4 = some (leafL noLeaf) ∧ S'.box b5 = some (leafL noLeaf) ∧ S'.box b6 = some (markL noMark) ∧ S'.box b9 = some (leafL (rightEnd l))) ⟨hle.setBox s2 _, (box_set _ _ _).trans (congrArg some (stHigh _ _)), (box_set_ne _ _ m3_2).trans k3, (box_set_ne _ _ m4_2).trans k4, (box_set_ne _ _ m5_2).trans k5, (box_set_ne _ _ m6_2).trans k6, (box_set_ne _ _ m9_2).trans k9⟩ ?_
  clear hle k2 k3 k4 k5 k6 k9
  rintro Ss ⟨hle, k2, k3, k4, k5, k6, k9⟩
  repeat (first | refine LOps.nil ?_ | refine andThen_normal ?_ | refine andThen_exit ?_ | refine andThen_ret ?_ | refine inBlock_normal ?_ | refine inBlock_ret ?_ | refine inBlock_here ?_ | refine inBlock_out rfl ?_ | refine LWp.seq ?_ | refine LWp.region ?_ | refine LWp.block ?_ | refine LWp.exit ?_ | refine LWp.ret ?_ | refine LWp.skip ?_ | refine LOps.valA ?_ | refine LOps.outA ?_ | refine LOps.whenA ?_ | refine LOps.pickA ?_)
  refine LOps.storeA (b := b2) (off := 108) (cs := leafL { L0 with high := (l.rank (n / 2)).m }) (l := [bv true]) ?_
  refine LOps.gen (fun S' => S.le S' ∧ S'.box b2 = some (leafL { L0 with high := (l.rank (n / 2)).m, bounded := true }) ∧ S'.box b3 = some ([iv x, u64 y]) ∧ S'.box b4 = some (leafL noLeaf) ∧ S'.box b5 = some (leafL noLeaf) ∧ S'.box b6 = some (markL noMark) ∧ S'.box b9 = some (leafL (rightEnd l))) ⟨hle.setBox s2 _, (box_set _ _ _).trans (congrArg some (stBounded _ _)), (box_set_ne _ _ m3_2).trans k3, (box_set_ne _ _ m4_2).trans k4, (box_set_ne _ _ m5_2).trans k5, (box_set_ne _ _ m6_2).trans k6, (box_set_ne _ _ m9_2).trans k9⟩ ?_
  clear hle k2 k3 k4 k5 k6 k9
  rintro Ss ⟨hle, k2, k3, k4, k5, k6, k9⟩
  repeat (first | refine LOps.nil ?_ | refine andThen_normal ?_ | refine andThen_exit ?_ | refine andThen_ret ?_ | refine inBlock_normal ?_ | refine inBlock_ret ?_ | refine inBlock_here ?_ | refine inBlock_out rfl ?_ | refine LWp.seq ?_ | refine LWp.region ?_ | refine LWp.block ?_ | refine LWp.exit ?_ | refine LWp.ret ?_ | refine LWp.skip ?_ | refine LOps.valA ?_ | refine LOps.outA ?_ | refine LOps.whenA ?_ | refine LOps.pickA ?_)
  refine LOps.storeA (b := b2) (off := 109) (cs := leafL { L0 with high := (l.rank (n / 2)).m, bounded := true }) (l := [iv x, u64 y]) ?_
  refine LOps.gen (fun S' => S.le S' ∧ S'.box b2 = some (leafL { L0 with high := (l.rank (n / 2)).m, bounded := true, ns := x, ng := y }) ∧ S'.box b3 = some ([iv x, u64 y]) ∧ S'.box b4 = some (leafL noLeaf) ∧ S'.box b5 = some (leafL noLeaf) ∧ S'.box b6 = some (markL noMark) ∧ S'.box b9 = some (leafL (rightEnd l))) ⟨hle.setBox s2 _, (box_set _ _ _).trans (congrArg some (stNext _ _ _)), (box_set_ne _ _ m3_2).trans k3, (box_set_ne _ _ m4_2).trans k4, (box_set_ne _ _ m5_2).trans k5, (box_set_ne _ _ m6_2).trans k6, (box_set_ne _ _ m9_2).trans k9⟩ ?_
  clear hle k2 k3 k4 k5 k6 k9
  rintro Ss ⟨hle, k2, k3, k4, k5, k6, k9⟩
  have hE : leafL { L0 with high := (l.rank (n / 2)).m, bounded := true, ns := x, ng := y } = leafL (leftEnd l x y) := by rw [hL0, hge, hnn]; rfl
  rw [hE] at k2
  clear hL0 hE hge hk
  repeat (first | refine LOps.nil ?_ | refine andThen_normal ?_ | refine andThen_exit ?_ | refine andThen_ret ?_ | refine inBlock_normal ?_ | refine inBlock_ret ?_ | refine inBlock_here ?_ | refine inBlock_out rfl ?_ | refine LWp.seq ?_ | refine LWp.region ?_ | refine LWp.block ?_ | refine LWp.exit ?_ | refine LWp.ret ?_ | refine LWp.skip ?_ | refine LOps.valA ?_ | refine LOps.outA ?_ | refine LOps.whenA ?_ | refine LOps.pickA ?_ | refine LOps.storeA ?_)
  refine LWp.drawX (fun b => b = b4 ∨ b = b5 ∨ b = b6) [0, 1, 2, 3, 4, 5, 6, 7, 8, 9] (by rw [hP]; rfl) rfl ?_
  repeat (first | refine LRl.valH (LVal.load hD rfl rfl k2 rfl (rdLeaf _)) ?_ (fun _ hS => LVal.load hD rfl rfl (hS.box _ _ k2 (by first | exact id | (intro hx; rcases hx with hx | hx <;> omega) | (intro hx; have hx2 : _ = _ := hx; omega) | (intro hx; exact absurd hx.1 (by decide)))) rfl (rdLeaf _)) | refine LRl.valH (LVal.load hD rfl rfl k9 rfl (rdLeaf _)) ?_ (fun _ hS => LVal.load hD rfl rfl (hS.box _ _ k9 (by first | exact id | (intro hx; rcases hx with hx | hx <;> omega) | (intro hx; have hx2 : _ = _ := hx; omega) | (intro hx; exact absurd hx.1 (by decide)))) rfl (rdLeaf _)) | refine LRl.val (fun _ _ => LVal.indexLit hD rfl rfl rfl (n := n / 2) rfl rfl rfl rfl hUk rfl) rfl rfl rfl ?_ | refine LRl.nil ?_ | refine LRl.valA ?_ | refine LRl.outA ?_ | refine LRl.whenA ?_ | refine LRl.pickA ?_)
  refine LRl.actA0 (LDo.store hD rfl rfl (k4) rfl rfl rfl rfl).toAct rfl rfl rfl (by
    rintro _ _ ⟨rfl, rfl⟩ q hq
    rcases (by omega : q = 0 ∨ q = 1 ∨ q = 2 ∨ q = 3 ∨ q = 4 ∨ q = 5 ∨ q = 6) with h | h | h | h | h | h | h <;> subst h <;> first | exact .inr rfl | exact .inl (LS.leX.setBox (by omega) _)) ?_
  rintro _ _ ⟨rfl, rfl⟩
  refine LRl.actA0 (LDo.store hD rfl rfl ((box_set_ne _ _ m5_4).trans k5) rfl rfl rfl rfl).toAct rfl rfl rfl (by
    rintro _ _ ⟨rfl, rfl⟩ q hq
    rcases (by omega : q = 0 ∨ q = 1 ∨ q = 2 ∨ q = 3 ∨ q = 4 ∨ q = 5 ∨ q = 6 ∨ q = 7) with h | h | h | h | h | h | h | h <;> subst h <;> first | exact .inr rfl | exact .inl (LS.leX.setBox (by omega) _)) ?_
  rintro _ _ ⟨rfl, rfl⟩
  refine LRl.actA0 (LDo.store hD rfl rfl ((box_set_ne _ _ m6_5).trans ((box_set_ne _ _ m6_4).trans k6)) rfl rfl rfl rfl).toAct rfl rfl rfl (by
    rintro _ _ ⟨rfl, rfl⟩ q hq
    rcases (by omega : q = 0 ∨ q = 1 ∨ q = 2 ∨ q = 3 ∨ q = 4 ∨ q = 5 ∨ q = 6 ∨ q = 7 ∨ q = 8) with h | h | h | h | h | h | h | h | h <;> subst h <;> first | exact .inr rfl | exact .inl (LS.leX.setBox (by omega) _)) ?_
  rintro _ _ ⟨rfl, rfl⟩
  repeat (first | refine LRl.nil ?_ | refine LRl.valA ?_ | refine LRl.outA ?_ | refine LRl.whenA ?_ | refine LRl.pickA ?_)
  repeat (first | refine LOps.nil ?_ | refine andThen_normal ?_ | refine andThen_exit ?_ | refine andThen_ret ?_ | refine inBlock_normal ?_ | refine inBlock_ret ?_ | refine inBlock_here ?_ | refine inBlock_out rfl ?_ | refine LWp.seq ?_ | refine LWp.region ?_ | refine LWp.block ?_ | refine LWp.exit ?_ | refine LWp.ret ?_ | refine LWp.skip ?_ | refine LOps.valA ?_ | refine LOps.outA ?_ | refine LOps.whenA ?_ | refine LOps.pickA ?_ | refine LOps.storeA ?_)
  rw [← hnn]
  exact ⟨_, splitRes rfl (hP ▸ tok45) rfl rfl (hP ▸ tok40) rfl rfl rfl ((box_set_ne _ _ n4_6).trans ((box_set_ne _ _ n4_5).trans ((box_set _ _ _).trans (congrArg some (stLeaf _ _))))) rfl ((box_set_ne _ _ n5_6).trans ((box_set _ _ _).trans (congrArg some (stLeaf _ _)))) rfl (box_set _ _ _), rfl, ((hle.setBox s4 _).setBox s5 _).setBox s6 _⟩
end Go.Proofs.Ytgkjhlmfgaaddaa.LF
