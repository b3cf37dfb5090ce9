/- The walk of the law 'MleafKeeps'. (Printed by gen_keeps.py.) -/
import Derived.Test.YtgkjhlmfgaaddaaLNc
set_option linter.unusedVariables false
set_option linter.unusedSimpArgs false
namespace Go.Proofs.Ytgkjhlmfgaaddaa.LF
open Go.RowKit
set_option linter.unusedVariables false

theorem hand_self (a b : Int) : ((a == a) && ((b == b) && true)) = true := by simp
/-- What the law compares. -/
structure KeepAt (l : LeafV) (s : SlotV) (x y : Int) (A : LeafV) (o1 : SlotV) (had : Bool) (B C1 C2 : LeafV) (sep : MarkV) (was : SlotV) (is : Bool) : Prop where
  pa : PutAt l s A o1 had
  cb : CutAt l s.m B
  hw : hasL l s.m = (was, is)
  small : l.p % 16 < 2 → C1 = l
  big : 2 ≤ l.p % 16 → Halves l x y C1 C2 ∧ sep = (l.rank (l.p % 16 / 2)).m
  f1 : Fit C1
  o1 : C1.ok

theorem rdSl2 (s : SlotV) {i : TI} (ha : i.isAgg = true := by rfl) (hs : i.size = 7 := by rfl) : readT i ((slotL s).drop 0) = some (.agg (slotL s)) := readT_agg ha (by rw [hs]; exact Nat.le_refl _) (by rw [hs]; rfl)
theorem rdSlM (s : SlotV) {i : TI} (ha : i.isAgg = true := by rfl) (hs : i.size = 2 := by rfl) : readT i ((slotL s).drop 0) = some (.agg (markL s.m)) := readT_agg ha (by rw [hs]; exact (by decide : 2 ≤ 7)) (by rw [hs]; rfl)
theorem rdMk2 (m : MarkV) {i : TI} (ha : i.isAgg = true := by rfl) (hs : i.size = 2 := by rfl) : readT i ((markL m).drop 0) = some (.agg (markL m)) := readT_agg ha (by rw [hs]; exact Nat.le_refl _) (by rw [hs]; rfl)
theorem rdHa2 (x y : Int) {i : TI} (ha : i.isAgg = true := by rfl) (hs : i.size = 2 := by rfl) : readT i (([iv x, u64 y] : List LV).drop 0) = some (.agg [iv x, u64 y]) := readT_agg ha (by rw [hs]; exact Nat.le_refl _) (by rw [hs]; rfl)
theorem bool_self2 (b : Bool) : (b == b) = true := by simp
theorem bne_self2 (b : Bool) : (b != b) = false := by simp

attribute [local irreducible] andThen inBlock LWp LOps LCalls
set_option maxHeartbeats 64000000 in
set_option maxRecDepth 40000 in
theorem keeps_L {G : Ctx} (hP : G.P = Try.prog) (l : LeafV) (hl : l.ok) (s : SlotV) (hs : s.m.ok) (m : MarkV) (hm : m.ok) (x y : Int) (S : LS) : LCalls G 10 [.agg (leafL l), .agg (slotL s), .agg (markL m), .agg [iv x, u64 y]] (fun r _ => r = .one (bv true)) S := by
  have hD : TabOK G.P D := by rw [hP]; exact hD0
  have ea : EqTy G.P D 24 := by rw [hP]; exact eqMark
  have eb : EqTy G.P D 28 := by rw [hP]; exact eqSlot
  have ec : EqTy G.P D 26 := by rw [hP]; exact eqHandle
  have c0 := awake_F hP
  have c1 := putLeaf_L hP l hl s hs
  have c2 := delLeaf_L hP l hl s.m
  have c3 := split_L hP l hl x y
  have c4 := right_L hP l hl
  obtain ⟨A, o1, had, hA⟩ : ∃ A o1 had, putL l s = (A, o1, had) := ⟨_, _, _, rfl⟩
  obtain ⟨B, gone, there, hB⟩ : ∃ B gone there, delL l s.m = (B, gone, there) := ⟨_, _, _, rfl⟩
  obtain ⟨C1, C2, sep, hC⟩ : ∃ C1 C2 sep, splitL l x y = (C1, C2, sep) := ⟨_, _, _, rfl⟩
  rw [hA] at c1
  rw [hB] at c2
  rw [hC] at c3
  refine LCalls.enter (fn := Try.f10) (by rw [hP]; exact Try.func10) rfl rfl ?_
  repeat (first | refine LOps.nil ?_ | refine andThen_normal ?_ | refine andThen_exit ?_ | refine andThen_ret ?_ | refine inBlock_normal ?_ | refine inBlock_ret ?_ | refine inBlock_here ?_ | refine inBlock_out rfl ?_ | refine LWp.seq ?_ | refine LWp.region ?_ | refine LWp.block ?_ | refine LWp.exit ?_ | refine LWp.ret ?_ | refine LWp.skip ?_)
  have hle := LS.le.refl S
  refine LOps.do (LDo.box rfl rfl) rfl rfl rfl ?_
  rintro _ _ ⟨b4, hb4, rfl, rfl⟩
  have s4 := hle.none hb4
  refine LOps.gen (fun S' => S.le S' ∧ S'.box b4 = some (leafL l)) ⟨hle.newBox hb4 _, box_new _ _ _⟩ ?_
  clear hle hb4 
  rintro S4 ⟨hle, k4⟩
  skip
  refine LOps.do (LDo.box rfl rfl) rfl rfl rfl ?_
  rintro _ _ ⟨b5, hb5, rfl, rfl⟩
  have n4_5 := fresh_ne hb5 k4
  have m5_4 := n4_5.symm
  have s5 := hle.none hb5
  refine LOps.gen (fun S' => S.le S' ∧ S'.box b4 = some (leafL l) ∧ S'.box b5 = some (slotL s)) ⟨hle.newBox hb5 _, (box_new_ne _ _ n4_5).trans k4, box_new _ _ _⟩ ?_
  clear hle hb5 k4
  rintro S5 ⟨hle, k4, k5⟩
  skip
  refine LOps.do (LDo.box rfl rfl) rfl rfl rfl ?_
  rintro _ _ ⟨b6, hb6, rfl, rfl⟩
  have n4_6 := fresh_ne hb6 k4
  have m6_4 := n4_6.symm
  have n5_6 := fresh_ne hb6 k5
  have m6_5 := n5_6.symm
  have s6 := hle.none hb6
  refine LOps.gen (fun S' => S.le S' ∧ S'.box b4 = some (leafL l) ∧ S'.box b5 = some (slotL s) ∧ S'.box b6 = some (markL m)) ⟨hle.newBox hb6 _, (box_new_ne _ _ n4_6).trans k4, (box_new_ne _ _ n5_6).trans k5, box_new _ _ _⟩ ?_
  clear hle hb6 k4 k5
  rintro S6 ⟨hle, k4, k5, k6⟩
  skip
  refine LOps.do (LDo.box rfl rfl) rfl rfl rfl ?_
  rintro _ _ ⟨b7, hb7, rfl, rfl⟩
  have n4_7 := fresh_ne hb7 k4
  have m7_4 := n4_7.symm
  have n5_7 := fresh_ne hb7 k5
  have m7_5 := n5_7.symm
  have n6_7 := fresh_ne hb7 k6
  have m7_6 := n6_7.symm
  have s7 := hle.none hb7
  refine LOps.gen (fun S' => S.le S' ∧ S'.box b4 = some (leafL l) ∧ S'.box b5 = some (slotL s) ∧ S'.box b6 = some (markL m) ∧ S'.box b7 = some ([iv x, u64 y])) ⟨hle.newBox hb7 _, (box_new_ne _ _ n4_7).trans k4, (box_new_ne _ _ n5_7).trans k5, (box_new_ne _ _ n6_7).trans k6, box_new _ _ _⟩ ?_
  clear hle hb7 k4 k5 k6
  rintro S7 ⟨hle, k4, k5, k6, k7⟩
  refine LOps.valG (r := .one (bv false)) (LVal.to (LVal.move (.inr rfl)) rfl) rfl rfl rfl ?_
  repeat (first | refine LOps.nil ?_ | refine andThen_normal ?_ | refine andThen_exit ?_ | refine andThen_ret ?_ | refine inBlock_normal ?_ | refine inBlock_ret ?_ | refine inBlock_here ?_ | refine inBlock_out rfl ?_ | refine LWp.seq ?_ | refine LWp.region ?_ | refine LWp.block ?_ | refine LWp.exit ?_ | refine LWp.ret ?_ | refine LWp.skip ?_)
  refine LOps.valG (r := .one (bv true)) (LVal.call rfl rfl (by rw [hP]; exact Try.func11) rfl (by decide) (c0)) rfl rfl rfl ?_
  refine LOps.valG (r := .one (bv false)) (LVal.to (LVal.unOp rfl rfl rfl) rfl) rfl rfl rfl ?_
  repeat (first | refine LOps.nil ?_ | refine andThen_normal ?_ | refine andThen_exit ?_ | refine andThen_ret ?_ | refine inBlock_normal ?_ | refine inBlock_ret ?_ | refine inBlock_here ?_ | refine inBlock_out rfl ?_ | refine LWp.seq ?_ | refine LWp.region ?_ | refine LWp.block ?_ | refine LWp.exit ?_ | refine LWp.ret ?_ | refine LWp.skip ?_ | refine LWp.condF rfl ?_)
  refine LOps.valG (r := .agg (leafL l)) (LVal.load hD rfl rfl k4 rfl (rdLeaf l)) rfl rfl rfl ?_
  refine LOps.valG (r := .agg (slotL s)) (LVal.load hD rfl rfl k5 rfl (rdSl2 s)) rfl rfl rfl ?_
  refine LOps.valG (r := .tup [.agg (leafL A), .agg (slotL o1), .one (bv had)]) (LVal.call rfl rfl (by rw [hP]; exact Try.func16) rfl (by decide) (c1)) rfl rfl rfl ?_
  refine LOps.valG (LVal.move (.inl rfl)) rfl rfl rfl ?_
  refine LOps.valG (r := .agg (leafL A)) (LVal.to (LVal.extract rfl rfl rfl) rfl) rfl rfl rfl ?_
  refine LOps.valG (r := .agg (slotL o1)) (LVal.to (LVal.extract rfl rfl rfl) rfl) rfl rfl rfl ?_
  refine LOps.valG (r := .one (bv had)) (LVal.to (LVal.extract rfl rfl rfl) rfl) rfl rfl rfl ?_
  skip
  refine LOps.do (LDo.alloc hD rfl rfl rfl) rfl rfl rfl ?_
  rintro _ _ ⟨b9, hb9, rfl, rfl⟩
  have n4_9 := fresh_ne hb9 k4
  have m9_4 := n4_9.symm
  have n5_9 := fresh_ne hb9 k5
  have m9_5 := n5_9.symm
  have n6_9 := fresh_ne hb9 k6
  have m9_6 := n6_9.symm
  have n7_9 := fresh_ne hb9 k7
  have m9_7 := n7_9.symm
  have s9 := hle.none hb9
  refine LOps.gen (fun S' => S.le S' ∧ S'.box b4 = some (leafL l) ∧ S'.box b5 = some (slotL s) ∧ S'.box b6 = some (markL m) ∧ S'.box b7 = some ([iv x, u64 y]) ∧ S'.box b9 = some (leafL noLeaf)) ⟨hle.newBox hb9 _, (box_new_ne _ _ n4_9).trans k4, (box_new_ne _ _ n5_9).trans k5, (box_new_ne _ _ n6_9).trans k6, (box_new_ne _ _ n7_9).trans k7, (box_new _ _ _).trans (congrArg some zeroLeaf)⟩ ?_
  clear hle hb9 k4 k5 k6 k7
  rintro S9 ⟨hle, k4, k5, k6, k7, k9⟩
  skip
  refine LOps.do (LDo.alloc hD rfl rfl rfl) rfl rfl rfl ?_
  rintro _ _ ⟨b10, hb10, rfl, rfl⟩
  have n4_10 := fresh_ne hb10 k4
  have m10_4 := n4_10.symm
  have n5_10 := fresh_ne hb10 k5
  have m10_5 := n5_10.symm
  have n6_10 := fresh_ne hb10 k6
  have m10_6 := n6_10.symm
  have n7_10 := fresh_ne hb10 k7
  have m10_7 := n7_10.symm
  have n9_10 := fresh_ne hb10 k9
  have m10_9 := n9_10.symm
  have s10 := hle.none hb10
  refine LOps.gen (fun S' => S.le S' ∧ S'.box b4 = some (leafL l) ∧ S'.box b5 = some (slotL s) ∧ S'.box b6 = some (markL m) ∧ S'.box b7 = some ([iv x, u64 y]) ∧ S'.box b9 = some (leafL noLeaf) ∧ S'.box b10 = some (slotL noSlot)) ⟨hle.newBox hb10 _, (box_new_ne _ _ n4_10).trans k4, (box_new_ne _ _ n5_10).trans k5, (box_new_ne _ _ n6_10).trans k6, (box_new_ne _ _ n7_10).trans k7, (box_new_ne _ _ n9_10).trans k9, box_new _ _ _⟩ ?_
  clear hle hb10 k4 k5 k6 k7 k9
  rintro S10 ⟨hle, k4, k5, k6, k7, k9, k10⟩
  refine LOps.storeA (b := b9) (off := 0) (cs := leafL noLeaf) (l := leafL A) ?_
  refine LOps.gen (fun S' => S.le S' ∧ S'.box b4 = some (leafL l) ∧ S'.box b5 = some (slotL s) ∧ S'.box b6 = some (markL m) ∧ S'.box b7 = some ([iv x, u64 y]) ∧ S'.box b9 = some (leafL A) ∧ S'.box b10 = some (slotL noSlot)) ⟨hle.setBox s9 _, (box_set_ne _ _ n4_9).trans k4, (box_set_ne _ _ n5_9).trans k5, (box_set_ne _ _ n6_9).trans k6, (box_set_ne _ _ n7_9).trans k7, (box_set _ _ _).trans (congrArg some (stLeaf _ _)), (box_set_ne _ _ m10_9).trans k10⟩ ?_
  clear hle k4 k5 k6 k7 k9 k10
  rintro Ss ⟨hle, k4, k5, k6, k7, k9, k10⟩
  refine LOps.storeA (b := b10) (off := 0) (cs := slotL noSlot) (l := slotL o1) ?_
  refine LOps.gen (fun S' => S.le S' ∧ S'.box b4 = some (leafL l) ∧ S'.box b5 = some (slotL s) ∧ S'.box b6 = some (markL m) ∧ S'.box b7 = some ([iv x, u64 y]) ∧ S'.box b9 = some (leafL A) ∧ S'.box b10 = some (slotL o1)) ⟨hle.setBox s10 _, (box_set_ne _ _ n4_10).trans k4, (box_set_ne _ _ n5_10).trans k5, (box_set_ne _ _ n6_10).trans k6, (box_set_ne _ _ n7_10).trans k7, (box_set_ne _ _ n9_10).trans k9, (box_set _ _ _).trans (congrArg some (rfl))⟩ ?_
  clear hle k4 k5 k6 k7 k9 k10
  rintro Ss ⟨hle, k4, k5, k6, k7, k9, k10⟩
  refine LOps.valG (r := .one (bv had)) (LVal.to (LVal.move (.inr rfl)) rfl) rfl rfl rfl ?_
  repeat (first | refine LOps.nil ?_ | refine andThen_normal ?_ | refine andThen_exit ?_ | refine andThen_ret ?_ | refine inBlock_normal ?_ | refine inBlock_ret ?_ | refine inBlock_here ?_ | refine inBlock_out rfl ?_ | refine LWp.seq ?_ | refine LWp.region ?_ | refine LWp.block ?_ | refine LWp.exit ?_ | refine LWp.ret ?_ | refine LWp.skip ?_)
  refine LOps.valG (r := .agg (leafL l)) (LVal.load hD rfl rfl k4 rfl (rdLeaf l)) rfl rfl rfl ?_
  refine LOps.valG (LVal.fieldAddr hD rfl rfl rfl rfl rfl rfl (by decide)) rfl rfl rfl ?_
  refine LOps.valG (r := .agg (markL s.m)) (LVal.load hD rfl rfl k5 rfl (rdSlM s)) rfl rfl rfl ?_
  refine LOps.valG (r := .tup [.agg (leafL B), .agg (slotL gone), .one (bv there)]) (LVal.call rfl rfl (by rw [hP]; exact Try.func37) rfl (by decide) (c2)) rfl rfl rfl ?_
  refine LOps.valG (LVal.move (.inl rfl)) rfl rfl rfl ?_
  refine LOps.valG (r := .agg (leafL B)) (LVal.to (LVal.extract rfl rfl rfl) rfl) rfl rfl rfl ?_
  refine LOps.valG (r := .agg (slotL gone)) (LVal.to (LVal.extract rfl rfl rfl) rfl) rfl rfl rfl ?_
  refine LOps.valG (r := .one (bv there)) (LVal.to (LVal.extract rfl rfl rfl) rfl) rfl rfl rfl ?_
  skip
  refine LOps.do (LDo.alloc hD rfl rfl rfl) rfl rfl rfl ?_
  rintro _ _ ⟨b12, hb12, rfl, rfl⟩
  have n4_12 := fresh_ne hb12 k4
  have m12_4 := n4_12.symm
  have n5_12 := fresh_ne hb12 k5
  have m12_5 := n5_12.symm
  have n6_12 := fresh_ne hb12 k6
  have m12_6 := n6_12.symm
  have n7_12 := fresh_ne hb12 k7
  have m12_7 := n7_12.symm
  have n9_12 := fresh_ne hb12 k9
  have m12_9 := n9_12.symm
  have n10_12 := fresh_ne hb12 k10
  have m12_10 := n10_12.symm
  have s12 := hle.none hb12
  refine LOps.gen (fun S' => S.le S' ∧ S'.box b4 = some (leafL l) ∧ S'.box b5 = some (slotL s) ∧ S'.box b6 = some (markL m) ∧ S'.box b7 = some ([iv x, u64 y]) ∧ S'.box b9 = some (leafL A) ∧ S'.box b10 = some (slotL o1) ∧ S'.box b12 = some (leafL noLeaf)) ⟨hle.newBox hb12 _, (box_new_ne _ _ n4_12).trans k4, (box_new_ne _ _ n5_12).trans k5, (box_new_ne _ _ n6_12).trans k6, (box_new_ne _ _ n7_12).trans k7, (box_new_ne _ _ n9_12).trans k9, (box_new_ne _ _ n10_12).trans k10, (box_new _ _ _).trans (congrArg some zeroLeaf)⟩ ?_
  clear hle hb12 k4 k5 k6 k7 k9 k10
  rintro S12 ⟨hle, k4, k5, k6, k7, k9, k10, k12⟩
  skip
  refine LOps.do (LDo.alloc hD rfl rfl rfl) rfl rfl rfl ?_
  rintro _ _ ⟨b13, hb13, rfl, rfl⟩
  have n4_13 := fresh_ne hb13 k4
  have m13_4 := n4_13.symm
  have n5_13 := fresh_ne hb13 k5
  have m13_5 := n5_13.symm
  have n6_13 := fresh_ne hb13 k6
  have m13_6 := n6_13.symm
  have n7_13 := fresh_ne hb13 k7
  have m13_7 := n7_13.symm
  have n9_13 := fresh_ne hb13 k9
  have m13_9 := n9_13.symm
  have n10_13 := fresh_ne hb13 k10
  have m13_10 := n10_13.symm
  have n12_13 := fresh_ne hb13 k12
  have m13_12 := n12_13.symm
  have s13 := hle.none hb13
  refine LOps.gen (fun S' => S.le S' ∧ S'.box b4 = some (leafL l) ∧ S'.box b5 = some (slotL s) ∧ S'.box b6 = some (markL m) ∧ S'.box b7 = some ([iv x, u64 y]) ∧ S'.box b9 = some (leafL A) ∧ S'.box b10 = some (slotL o1) ∧ S'.box b12 = some (leafL noLeaf) ∧ S'.box b13 = some (slotL noSlot)) ⟨hle.newBox hb13 _, (box_new_ne _ _ n4_13).trans k4, (box_new_ne _ _ n5_13).trans k5, (box_new_ne _ _ n6_13).trans k6, (box_new_ne _ _ n7_13).trans k7, (box_new_ne _ _ n9_13).trans k9, (box_new_ne _ _ n10_13).trans k10, (box_new_ne _ _ n12_13).trans k12, box_new _ _ _⟩ ?_
  clear hle hb13 k4 k5 k6 k7 k9 k10 k12
  rintro S13 ⟨hle, k4, k5, k6, k7, k9, k10, k12, k13⟩
  refine LOps.storeA (b := b12) (off := 0) (cs := leafL noLeaf) (l := leafL B) ?_
  refine LOps.gen (fun S' => S.le S' ∧ S'.box b4 = some (leafL l) ∧ S'.box b5 = some (slotL s) ∧ S'.box b6 = some (markL m) ∧ S'.box b7 = some ([iv x, u64 y]) ∧ S'.box b9 = some (leafL A) ∧ S'.box b10 = some (slotL o1) ∧ S'.box b12 = some (leafL B) ∧ S'.box b13 = some (slotL noSlot)) ⟨hle.setBox s12 _, (box_set_ne _ _ n4_12).trans k4, (box_set_ne _ _ n5_12).trans k5, (box_set_ne _ _ n6_12).trans k6, (box_set_ne _ _ n7_12).trans k7, (box_set_ne _ _ n9_12).trans k9, (box_set_ne _ _ n10_12).trans k10, (box_set _ _ _).trans (congrArg some (stLeaf _ _)), (box_set_ne _ _ m13_12).trans k13⟩ ?_
  clear hle k4 k5 k6 k7 k9 k10 k12 k13
  rintro Ss ⟨hle, k4, k5, k6, k7, k9, k10, k12, k13⟩
  refine LOps.storeA (b := b13) (off := 0) (cs := slotL noSlot) (l := slotL gone) ?_
  refine LOps.gen (fun S' => S.le S' ∧ S'.box b4 = some (leafL l) ∧ S'.box b5 = some (slotL s) ∧ S'.box b6 = some (markL m) ∧ S'.box b7 = some ([iv x, u64 y]) ∧ S'.box b9 = some (leafL A) ∧ S'.box b10 = some (slotL o1) ∧ S'.box b12 = some (leafL B) ∧ S'.box b13 = some (slotL gone)) ⟨hle.setBox s13 _, (box_set_ne _ _ n4_13).trans k4, (box_set_ne _ _ n5_13).trans k5, (box_set_ne _ _ n6_13).trans k6, (box_set_ne _ _ n7_13).trans k7, (box_set_ne _ _ n9_13).trans k9, (box_set_ne _ _ n10_13).trans k10, (box_set_ne _ _ n12_13).trans k12, (box_set _ _ _).trans (congrArg some (rfl))⟩ ?_
  clear hle k4 k5 k6 k7 k9 k10 k12 k13
  rintro Ss ⟨hle, k4, k5, k6, k7, k9, k10, k12, k13⟩
  refine LOps.valG (r := .one (bv there)) (LVal.to (LVal.move (.inr rfl)) rfl) rfl rfl rfl ?_
  repeat (first | refine LOps.nil ?_ | refine andThen_normal ?_ | refine andThen_exit ?_ | refine andThen_ret ?_ | refine inBlock_normal ?_ | refine inBlock_ret ?_ | refine inBlock_here ?_ | refine inBlock_out rfl ?_ | refine LWp.seq ?_ | refine LWp.region ?_ | refine LWp.block ?_ | refine LWp.exit ?_ | refine LWp.ret ?_ | refine LWp.skip ?_)
  refine LOps.valG (r := .agg (leafL l)) (LVal.load hD rfl rfl k4 rfl (rdLeaf l)) rfl rfl rfl ?_
  refine LOps.valG (r := .agg [iv x, u64 y]) (LVal.load hD rfl rfl k7 rfl (rdHa2 x y)) rfl rfl rfl ?_
  refine LOps.valG (r := .tup [.agg (leafL C1), .agg (leafL C2), .agg (markL sep)]) (LVal.call rfl rfl (by rw [hP]; exact Try.func42) rfl (by decide) (c3)) rfl rfl rfl ?_
  refine LOps.valG (LVal.move (.inl rfl)) rfl rfl rfl ?_
  refine LOps.valG (r := .agg (leafL C1)) (LVal.to (LVal.extract rfl rfl rfl) rfl) rfl rfl rfl ?_
  refine LOps.valG (r := .agg (leafL C2)) (LVal.to (LVal.extract rfl rfl rfl) rfl) rfl rfl rfl ?_
  refine LOps.valG (r := .agg (markL sep)) (LVal.to (LVal.extract rfl rfl rfl) rfl) rfl rfl rfl ?_
  skip
  refine LOps.do (LDo.alloc hD rfl rfl rfl) rfl rfl rfl ?_
  rintro _ _ ⟨b15, hb15, rfl, rfl⟩
  have n4_15 := fresh_ne hb15 k4
  have m15_4 := n4_15.symm
  have n5_15 := fresh_ne hb15 k5
  have m15_5 := n5_15.symm
  have n6_15 := fresh_ne hb15 k6
  have m15_6 := n6_15.symm
  have n7_15 := fresh_ne hb15 k7
  have m15_7 := n7_15.symm
  have n9_15 := fresh_ne hb15 k9
  have m15_9 := n9_15.symm
  have n10_15 := fresh_ne hb15 k10
  have m15_10 := n10_15.symm
  have n12_15 := fresh_ne hb15 k12
  have m15_12 := n12_15.symm
  have n13_15 := fresh_ne hb15 k13
  have m15_13 := n13_15.symm
  have s15 := hle.none hb15
  refine LOps.gen (fun S' => S.le S' ∧ S'.box b4 = some (leafL l) ∧ S'.box b5 = some (slotL s) ∧ S'.box b6 = some (markL m) ∧ S'.box b7 = some ([iv x, u64 y]) ∧ S'.box b9 = some (leafL A) ∧ S'.box b10 = some (slotL o1) ∧ S'.box b12 = some (leafL B) ∧ S'.box b13 = some (slotL gone) ∧ S'.box b15 = some (leafL noLeaf)) ⟨hle.newBox hb15 _, (box_new_ne _ _ n4_15).trans k4, (box_new_ne _ _ n5_15).trans k5, (box_new_ne _ _ n6_15).trans k6, (box_new_ne _ _ n7_15).trans k7, (box_new_ne _ _ n9_15).trans k9, (box_new_ne _ _ n10_15).trans k10, (box_new_ne _ _ n12_15).trans k12, (box_new_ne _ _ n13_15).trans k13, (box_new _ _ _).trans (congrArg some zeroLeaf)⟩ ?_
  clear hle hb15 k4 k5 k6 k7 k9 k10 k12 k13
  rintro S15 ⟨hle, k4, k5, k6, k7, k9, k10, k12, k13, k15⟩
  skip
  refine LOps.do (LDo.alloc hD rfl rfl rfl) rfl rfl rfl ?_
  rintro _ _ ⟨b16, hb16, rfl, rfl⟩
  have n4_16 := fresh_ne hb16 k4
  have m16_4 := n4_16.symm
  have n5_16 := fresh_ne hb16 k5
  have m16_5 := n5_16.symm
  have n6_16 := fresh_ne hb16 k6
  have m16_6 := n6_16.symm
  have n7_16 := fresh_ne hb16 k7
  have m16_7 := n7_16.symm
  have n9_16 := fresh_ne hb16 k9
  have m16_9 := n9_16.symm
  have n10_16 := fresh_ne hb16 k10
  have m16_10 := n10_16.symm
  have n12_16 := fresh_ne hb16 k12
  have m16_12 := n12_16.symm
  have n13_16 := fresh_ne hb16 k13
  have m16_13 := n13_16.symm
  have n15_16 := fresh_ne hb16 k15
  have m16_15 := n15_16.symm
  have s16 := hle.none hb16
  refine LOps.gen (fun S' => S.le S' ∧ S'.box b4 = some (leafL l) ∧ S'.box b5 = some (slotL s) ∧ S'.box b6 = some (markL m) ∧ S'.box b7 = some ([iv x, u64 y]) ∧ S'.box b9 = some (leafL A) ∧ S'.box b10 = some (slotL o1) ∧ S'.box b12 = some (leafL B) ∧ S'.box b13 = some (slotL gone) ∧ S'.box b15 = some (leafL noLeaf) ∧ S'.box b16 = some (leafL noLeaf)) ⟨hle.newBox hb16 _, (box_new_ne _ _ n4_16).trans k4, (box_new_ne _ _ n5_16).trans k5, (box_new_ne _ _ n6_16).trans k6, (box_new_ne _ _ n7_16).trans k7, (box_new_ne _ _ n9_16).trans k9, (box_new_ne _ _ n10_16).trans k10, (box_new_ne _ _ n12_16).trans k12, (box_new_ne _ _ n13_16).trans k13, (box_new_ne _ _ n15_16).trans k15, (box_new _ _ _).trans (congrArg some zeroLeaf)⟩ ?_
  clear hle hb16 k4 k5 k6 k7 k9 k10 k12 k13 k15
  rintro S16 ⟨hle, k4, k5, k6, k7, k9, k10, k12, k13, k15, k16⟩
  skip
  refine LOps.do (LDo.alloc hD rfl rfl rfl) rfl rfl rfl ?_
  rintro _ _ ⟨b17, hb17, rfl, rfl⟩
  have n4_17 := fresh_ne hb17 k4
  have m17_4 := n4_17.symm
  have n5_17 := fresh_ne hb17 k5
  have m17_5 := n5_17.symm
  have n6_17 := fresh_ne hb17 k6
  have m17_6 := n6_17.symm
  have n7_17 := fresh_ne hb17 k7
  have m17_7 := n7_17.symm
  have n9_17 := fresh_ne hb17 k9
  have m17_9 := n9_17.symm
  have n10_17 := fresh_ne hb17 k10
  have m17_10 := n10_17.symm
  have n12_17 := fresh_ne hb17 k12
  have m17_12 := n12_17.symm
  have n13_17 := fresh_ne hb17 k13
  have m17_13 := n13_17.symm
  have n15_17 := fresh_ne hb17 k15
  have m17_15 := n15_17.symm
  have n16_17 := fresh_ne hb17 k16
  have m17_16 := n16_17.symm
  have s17 := hle.none hb17
  refine LOps.gen (fun S' => S.le S' ∧ S'.box b4 = some (leafL l) ∧ S'.box b5 = some (slotL s) ∧ S'.box b6 = some (markL m) ∧ S'.box b7 = some ([iv x, u64 y]) ∧ S'.box b9 = some (leafL A) ∧ S'.box b10 = some (slotL o1) ∧ S'.box b12 = some (leafL B) ∧ S'.box b13 = some (slotL gone) ∧ S'.box b15 = some (leafL noLeaf) ∧ S'.box b16 = some (leafL noLeaf) ∧ S'.box b17 = some (markL noMark)) ⟨hle.newBox hb17 _, (box_new_ne _ _ n4_17).trans k4, (box_new_ne _ _ n5_17).trans k5, (box_new_ne _ _ n6_17).trans k6, (box_new_ne _ _ n7_17).trans k7, (box_new_ne _ _ n9_17).trans k9, (box_new_ne _ _ n10_17).trans k10, (box_new_ne _ _ n12_17).trans k12, (box_new_ne _ _ n13_17).trans k13, (box_new_ne _ _ n15_17).trans k15, (box_new_ne _ _ n16_17).trans k16, box_new _ _ _⟩ ?_
  clear hle hb17 k4 k5 k6 k7 k9 k10 k12 k13 k15 k16
  rintro S17 ⟨hle, k4, k5, k6, k7, k9, k10, k12, k13, k15, k16, k17⟩
  refine LOps.storeA (b := b15) (off := 0) (cs := leafL noLeaf) (l := leafL C1) ?_
  refine LOps.gen (fun S' => S.le S' ∧ S'.box b4 = some (leafL l) ∧ S'.box b5 = some (slotL s) ∧ S'.box b6 = some (markL m) ∧ S'.box b7 = some ([iv x, u64 y]) ∧ S'.box b9 = some (leafL A) ∧ S'.box b10 = some (slotL o1) ∧ S'.box b12 = some (leafL B) ∧ S'.box b13 = some (slotL gone) ∧ S'.box b15 = some (leafL C1) ∧ S'.box b16 = some (leafL noLeaf) ∧ S'.box b17 = some (markL noMark)) ⟨hle.setBox s15 _, (box_set_ne _ _ n4_15).trans k4, (box_set_ne _ _ n5_15).trans k5, (box_set_ne _ _ n6_15).trans k6, (box_set_ne _ _ n7_15).trans k7, (box_set_ne _ _ n9_15).trans k9, (box_set_ne _ _ n10_15).trans k10, (box_set_ne _ _ n12_15).trans k12, (box_set_ne _ _ n13_15).trans k13, (box_set _ _ _).trans (congrArg some (stLeaf _ _)), (box_set_ne _ _ m16_15).trans k16, (box_set_ne _ _ m17_15).trans k17⟩ ?_
  clear hle k4 k5 k6 k7 k9 k10 k12 k13 k15 k16 k17
  rintro Ss ⟨hle, k4, k5, k6, k7, k9, k10, k12, k13, k15, k16, k17⟩
  refine LOps.storeA (b := b16) (off := 0) (cs := leafL noLeaf) (l := leafL C2) ?_
  refine LOps.gen (fun S' => S.le S' ∧ S'.box b4 = some (leafL l) ∧ S'.box b5 = some (slotL s) ∧ S'.box b6 = some (markL m) ∧ S'.box b7 = some ([iv x, u64 y]) ∧ S'.box b9 = some (leafL A) ∧ S'.box b10 = some (slotL o1) ∧ S'.box b12 = some (leafL B) ∧ S'.box b13 = some (slotL gone) ∧ S'.box b15 = some (leafL C1) ∧ S'.box b16 = some (leafL C2) ∧ S'.box b17 = some (markL noMark)) ⟨hle.setBox s16 _, (box_set_ne _ _ n4_16).trans k4, (box_set_ne _ _ n5_16).trans k5, (box_set_ne _ _ n6_16).trans k6, (box_set_ne _ _ n7_16).trans k7, (box_set_ne _ _ n9_16).trans k9, (box_set_ne _ _ n10_16).trans k10, (box_set_ne _ _ n12_16).trans k12, (box_set_ne _ _ n13_16).trans k13, (box_set_ne _ _ n15_16).trans k15, (box_set _ _ _).trans (congrArg some (stLeaf _ _)), (box_set_ne _ _ m17_16).trans k17⟩ ?_
  clear hle k4 k5 k6 k7 k9 k10 k12 k13 k15 k16 k17
  rintro Ss ⟨hle, k4, k5, k6, k7, k9, k10, k12, k13, k15, k16, k17⟩
  refine LOps.storeA (b := b17) (off := 0) (cs := markL noMark) (l := markL sep) ?_
  refine LOps.gen (fun S' => S.le S' ∧ S'.box b4 = some (leafL l) ∧ S'.box b5 = some (slotL s) ∧ S'.box b6 = some (markL m) ∧ S'.box b7 = some ([iv x, u64 y]) ∧ S'.box b9 = some (leafL A) ∧ S'.box b10 = some (slotL o1) ∧ S'.box b12 = some (leafL B) ∧ S'.box b13 = some (slotL gone) ∧ S'.box b15 = some (leafL C1) ∧ S'.box b16 = some (leafL C2) ∧ S'.box b17 = some (markL sep)) ⟨hle.setBox s17 _, (box_set_ne _ _ n4_17).trans k4, (box_set_ne _ _ n5_17).trans k5, (box_set_ne _ _ n6_17).trans k6, (box_set_ne _ _ n7_17).trans k7, (box_set_ne _ _ n9_17).trans k9, (box_set_ne _ _ n10_17).trans k10, (box_set_ne _ _ n12_17).trans k12, (box_set_ne _ _ n13_17).trans k13, (box_set_ne _ _ n15_17).trans k15, (box_set_ne _ _ n16_17).trans k16, (box_set _ _ _).trans (congrArg some (rfl))⟩ ?_
  clear hle k4 k5 k6 k7 k9 k10 k12 k13 k15 k16 k17
  rintro Ss ⟨hle, k4, k5, k6, k7, k9, k10, k12, k13, k15, k16, k17⟩
  repeat (first | refine LOps.nil ?_ | refine andThen_normal ?_ | refine andThen_exit ?_ | refine andThen_ret ?_ | refine inBlock_normal ?_ | refine inBlock_ret ?_ | refine inBlock_here ?_ | refine inBlock_out rfl ?_ | refine LWp.seq ?_ | refine LWp.region ?_ | refine LWp.block ?_ | refine LWp.exit ?_ | refine LWp.ret ?_ | refine LWp.skip ?_)
  refine LOps.valG (r := .agg (leafL l)) (LVal.load hD rfl rfl k4 rfl (rdLeaf l)) rfl rfl rfl ?_
  refine LOps.valG (r := .one (bv (rightL l))) (LVal.call rfl rfl (by rw [hP]; exact Try.func12) rfl (by decide) (c4)) rfl rfl rfl ?_
  refine LOps.valG (r := .one (bv (!(rightL l)))) (LVal.to (LVal.unOp rfl rfl rfl) rfl) rfl rfl rfl ?_
  repeat (first | refine LOps.nil ?_ | refine andThen_normal ?_ | refine andThen_exit ?_ | refine andThen_ret ?_ | refine inBlock_normal ?_ | refine inBlock_ret ?_ | refine inBlock_here ?_ | refine inBlock_out rfl ?_ | refine LWp.seq ?_ | refine LWp.region ?_ | refine LWp.block ?_ | refine LWp.exit ?_ | refine LWp.ret ?_ | refine LWp.skip ?_)
  refine LWp.cond rfl (fun h => ?_) (fun h => ?_)
  · have h : (!rightL l) = true := h
    rw [Bool.not_eq_true'] at h
    rw [putL_bad (fun h0 => by rw [h] at h0; cases h0.1)] at hA
    rw [delL_no (by unfold findL; rw [h]; rfl)] at hB
    rw [show splitL l x y = (l, noLeaf, noMark) by unfold splitL; rw [if_neg (fun h0 => by rw [h] at h0; cases h0.1)]] at hC
    cases hA; cases hB; cases hC
    clear c1 c2 c3 c4
    repeat (first | refine LOps.nil ?_ | refine andThen_normal ?_ | refine andThen_exit ?_ | refine andThen_ret ?_ | refine inBlock_normal ?_ | refine inBlock_ret ?_ | refine inBlock_here ?_ | refine inBlock_out rfl ?_ | refine LWp.seq ?_ | refine LWp.region ?_ | refine LWp.block ?_ | refine LWp.exit ?_ | refine LWp.ret ?_ | refine LWp.skip ?_)
    refine LOps.valG (r := .agg (leafL l)) (LVal.load hD rfl rfl k9 rfl (rdLeaf l)) rfl rfl rfl ?_
    refine LOps.valG (r := .agg (leafL l)) (LVal.load hD rfl rfl k4 rfl (rdLeaf l)) rfl rfl rfl ?_
    refine LOps.valG (r := .one (bv true)) (LVal.eqLeaf hP rfl rfl rfl) rfl rfl rfl ?_
    refine LOps.valG (r := .one (bv true)) (LVal.to (LVal.move (.inl rfl)) rfl) rfl rfl rfl ?_
    refine LOps.valG (r := .agg (leafL l)) (LVal.load hD rfl rfl k12 rfl (rdLeaf l)) rfl rfl rfl ?_
    refine LOps.valG (r := .agg (leafL l)) (LVal.load hD rfl rfl k4 rfl (rdLeaf l)) rfl rfl rfl ?_
    refine LOps.valG (r := .one (bv true)) (LVal.eqLeaf hP rfl rfl rfl) rfl rfl rfl ?_
    refine LOps.valG (r := .one (bv true)) (LVal.to (LVal.pick rfl rfl) rfl) rfl rfl rfl ?_
    refine LOps.valG (r := .one (bv true)) (LVal.to (LVal.move (.inl rfl)) rfl) rfl rfl rfl ?_
    refine LOps.valG (r := .agg (leafL l)) (LVal.load hD rfl rfl k15 rfl (rdLeaf l)) rfl rfl rfl ?_
    refine LOps.valG (r := .agg (leafL l)) (LVal.load hD rfl rfl k4 rfl (rdLeaf l)) rfl rfl rfl ?_
    refine LOps.valG (r := .one (bv true)) (LVal.eqLeaf hP rfl rfl rfl) rfl rfl rfl ?_
    refine LOps.valG (r := .one (bv true)) (LVal.to (LVal.pick rfl rfl) rfl) rfl rfl rfl ?_
    refine LOps.valG (r := .one (bv true)) (LVal.to (LVal.move (.inl rfl)) rfl) rfl rfl rfl ?_
    refine LOps.valG (r := .one (bv false)) (LVal.to (LVal.move (.inl rfl)) rfl) rfl rfl rfl ?_
    refine LOps.valG (r := .one (bv true)) (LVal.to (LVal.unOp rfl rfl rfl) rfl) rfl rfl rfl ?_
    refine LOps.valG (r := .one (bv true)) (LVal.to (LVal.pick rfl rfl) rfl) rfl rfl rfl ?_
    refine LOps.valG (r := .one (bv true)) (LVal.to (LVal.move (.inl rfl)) rfl) rfl rfl rfl ?_
    refine LOps.valG (r := .one (bv false)) (LVal.to (LVal.move (.inl rfl)) rfl) rfl rfl rfl ?_
    refine LOps.valG (r := .one (bv true)) (LVal.to (LVal.unOp rfl rfl rfl) rfl) rfl rfl rfl ?_
    refine LOps.valG (r := .one (bv true)) (LVal.to (LVal.pick rfl rfl) rfl) rfl rfl rfl ?_
    refine LOps.valG (r := .one (bv true)) (LVal.to (LVal.move (.inl rfl)) rfl) rfl rfl rfl ?_
    refine LOps.valG (r := .agg (markL noMark)) (LVal.load hD rfl rfl k17 rfl (rdMk2 noMark)) rfl rfl rfl ?_
    refine LOps.valG (r := .agg (markL noMark)) (LVal.to (LVal.build hD rfl rfl rfl rfl rfl rfl rfl) rfl) rfl rfl rfl ?_
    refine LOps.valG (r := .one (bv true)) (LVal.to (LVal.eqAgg hD rfl rfl rfl rfl rfl ea rfl) (by rfl)) rfl rfl rfl ?_
    refine LOps.valG (r := .one (bv true)) (LVal.to (LVal.pick rfl rfl) rfl) rfl rfl rfl ?_
    refine LOps.valG (r := .one (bv true)) (LVal.to (LVal.move (.inr rfl)) rfl) rfl rfl rfl ?_
    repeat (first | refine LOps.nil ?_ | refine andThen_normal ?_ | refine andThen_exit ?_ | refine andThen_ret ?_ | refine inBlock_normal ?_ | refine inBlock_ret ?_ | refine inBlock_here ?_ | refine inBlock_out rfl ?_ | refine LWp.seq ?_ | refine LWp.region ?_ | refine LWp.block ?_ | refine LWp.exit ?_ | refine LWp.ret ?_ | refine LWp.skip ?_)
    exact ⟨_, LRes.one rfl, rfl⟩
  have h : (!rightL l) = false := h
  rw [Bool.not_eq_false'] at h
  have hf := (fit_iff l).1 h
  have hn := hf.le
  clear h
  obtain ⟨was, is, hw⟩ : ∃ was is, hasL l s.m = (was, is) := ⟨_, _, rfl⟩
  have K : KeepAt l s x y A o1 had B C1 C2 sep was is ∧ gone = was ∧ there = is := by
    obtain ⟨A', o', h', pa⟩ := putAt_of hf hl hs
    obtain ⟨B', cb⟩ := cutAt_of hf hl s.m
    have e1 := pa.e
    rw [hA] at e1
    have e2 := cb.e
    rw [hB, hw] at e2
    cases e1; cases e2
    by_cases h2 : 2 ≤ l.p % 16
    · rw [show splitL l x y = (leftEnd l x y, rightEnd l, (l.rank (l.p % 16 / 2)).m) by unfold splitL; rw [if_pos ⟨hf.right, h2⟩]] at hC
      have hh := halves_of hf hl h2 x y
      cases hC
      exact ⟨⟨pa, cb, hw, fun h => by omega, fun _ => ⟨hh, rfl⟩, hh.fl, hh.ol⟩, rfl, rfl⟩
    · rw [show splitL l x y = (l, noLeaf, noMark) by unfold splitL; rw [if_neg (fun h => h2 h.2)]] at hC
      cases hC
      exact ⟨⟨pa, cb, hw, fun _ => rfl, fun h => absurd h h2, hf, hl⟩, rfl, rfl⟩
  obtain ⟨K, rfl, rfl⟩ := K
  clear hA hB hC c0 c1 c2 c3 c4 hw
  have c5 := right_L hP A K.pa.ok
  have c6 := right_L hP B K.cb.ok
  have c7 := right_L hP C1 K.o1
  rw [K.pa.fit.right] at c5
  rw [K.cb.fit.right] at c6
  rw [K.f1.right] at c7
  have c8 := hasLeaf_L hP l hl s.m
  rw [K.hw] at c8
  repeat (first | refine LOps.nil ?_ | refine andThen_normal ?_ | refine andThen_exit ?_ | refine andThen_ret ?_ | refine inBlock_normal ?_ | refine inBlock_ret ?_ | refine inBlock_here ?_ | refine inBlock_out rfl ?_ | refine LWp.seq ?_ | refine LWp.region ?_ | refine LWp.block ?_ | refine LWp.exit ?_ | refine LWp.ret ?_ | refine LWp.skip ?_)
  refine LOps.valG (r := .agg (leafL A)) (LVal.load hD rfl rfl k9 rfl (rdLeaf A)) rfl rfl rfl ?_
  refine LOps.valG (r := .one (bv true)) (LVal.call rfl rfl (by rw [hP]; exact Try.func12) rfl (by decide) (c5)) rfl rfl rfl ?_
  refine LOps.valG (r := .one (bv false)) (LVal.to (LVal.unOp rfl rfl rfl) rfl) rfl rfl rfl ?_
  refine LOps.valG (r := .one (bv false)) (LVal.to (LVal.move (.inl rfl)) rfl) rfl rfl rfl ?_
  refine LOps.valG (r := .agg (leafL B)) (LVal.load hD rfl rfl k12 rfl (rdLeaf B)) rfl rfl rfl ?_
  refine LOps.valG (r := .one (bv true)) (LVal.call rfl rfl (by rw [hP]; exact Try.func12) rfl (by decide) (c6)) rfl rfl rfl ?_
  refine LOps.valG (r := .one (bv false)) (LVal.to (LVal.unOp rfl rfl rfl) rfl) rfl rfl rfl ?_
  refine LOps.valG (r := .one (bv false)) (LVal.to (LVal.pick rfl rfl) rfl) rfl rfl rfl ?_
  refine LOps.valG (r := .one (bv false)) (LVal.to (LVal.move (.inl rfl)) rfl) rfl rfl rfl ?_
  refine LOps.valG (r := .agg (leafL C1)) (LVal.load hD rfl rfl k15 rfl (rdLeaf C1)) rfl rfl rfl ?_
  refine LOps.valG (r := .one (bv true)) (LVal.call rfl rfl (by rw [hP]; exact Try.func12) rfl (by decide) (c7)) rfl rfl rfl ?_
  refine LOps.valG (r := .one (bv false)) (LVal.to (LVal.unOp rfl rfl rfl) rfl) rfl rfl rfl ?_
  refine LOps.valG (r := .one (bv false)) (LVal.to (LVal.pick rfl rfl) rfl) rfl rfl rfl ?_
  repeat (first | refine LOps.nil ?_ | refine andThen_normal ?_ | refine andThen_exit ?_ | refine andThen_ret ?_ | refine inBlock_normal ?_ | refine inBlock_ret ?_ | refine inBlock_here ?_ | refine inBlock_out rfl ?_ | refine LWp.seq ?_ | refine LWp.region ?_ | refine LWp.block ?_ | refine LWp.exit ?_ | refine LWp.ret ?_ | refine LWp.skip ?_ | refine LWp.condF rfl ?_)
  refine LOps.valG (r := .agg (leafL l)) (LVal.load hD rfl rfl k4 rfl (rdLeaf l)) rfl rfl rfl ?_
  refine LOps.valG (LVal.fieldAddr hD rfl rfl rfl rfl rfl rfl (by decide)) rfl rfl rfl ?_
  refine LOps.valG (r := .agg (markL s.m)) (LVal.load hD rfl rfl k5 rfl (rdSlM s)) rfl rfl rfl ?_
  refine LOps.valG (r := .tup [.agg (slotL gone), .one (bv there)]) (LVal.call rfl rfl (by rw [hP]; exact Try.func45) rfl (by decide) (c8)) rfl rfl rfl ?_
  refine LOps.valG (LVal.move (.inl rfl)) rfl rfl rfl ?_
  refine LOps.valG (r := .agg (slotL gone)) (LVal.to (LVal.extract rfl rfl rfl) rfl) rfl rfl rfl ?_
  refine LOps.valG (r := .one (bv there)) (LVal.to (LVal.extract rfl rfl rfl) rfl) rfl rfl rfl ?_
  skip
  refine LOps.do (LDo.alloc hD rfl rfl rfl) rfl rfl rfl ?_
  rintro _ _ ⟨b18, hb18, rfl, rfl⟩
  have n4_18 := fresh_ne hb18 k4
  have m18_4 := n4_18.symm
  have n5_18 := fresh_ne hb18 k5
  have m18_5 := n5_18.symm
  have n6_18 := fresh_ne hb18 k6
  have m18_6 := n6_18.symm
  have n7_18 := fresh_ne hb18 k7
  have m18_7 := n7_18.symm
  have n9_18 := fresh_ne hb18 k9
  have m18_9 := n9_18.symm
  have n10_18 := fresh_ne hb18 k10
  have m18_10 := n10_18.symm
  have n12_18 := fresh_ne hb18 k12
  have m18_12 := n12_18.symm
  have n13_18 := fresh_ne hb18 k13
  have m18_13 := n13_18.symm
  have n15_18 := fresh_ne hb18 k15
  have m18_15 := n15_18.symm
  have n16_18 := fresh_ne hb18 k16
  have m18_16 := n16_18.symm
  have n17_18 := fresh_ne hb18 k17
  have m18_17 := n17_18.symm
  have s18 := hle.none hb18
  refine LOps.gen (fun S' => S.le S' ∧ S'.box b4 = some (leafL l) ∧ S'.box b5 = some (slotL s) ∧ S'.box b6 = some (markL m) ∧ S'.box b7 = some ([iv x, u64 y]) ∧ S'.box b9 = some (leafL A) ∧ S'.box b10 = some (slotL o1) ∧ S'.box b12 = some (leafL B) ∧ S'.box b13 = some (slotL gone) ∧ S'.box b15 = some (leafL C1) ∧ S'.box b16 = some (leafL C2) ∧ S'.box b17 = some (markL sep) ∧ S'.box b18 = some (slotL noSlot)) ⟨hle.newBox hb18 _, (box_new_ne _ _ n4_18).trans k4, (box_new_ne _ _ n5_18).trans k5, (box_new_ne _ _ n6_18).trans k6, (box_new_ne _ _ n7_18).trans k7, (box_new_ne _ _ n9_18).trans k9, (box_new_ne _ _ n10_18).trans k10, (box_new_ne _ _ n12_18).trans k12, (box_new_ne _ _ n13_18).trans k13, (box_new_ne _ _ n15_18).trans k15, (box_new_ne _ _ n16_18).trans k16, (box_new_ne _ _ n17_18).trans k17, box_new _ _ _⟩ ?_
  clear hle hb18 k4 k5 k6 k7 k9 k10 k12 k13 k15 k16 k17
  rintro S18 ⟨hle, k4, k5, k6, k7, k9, k10, k12, k13, k15, k16, k17, k18⟩
  refine LOps.storeA (b := b18) (off := 0) (cs := slotL noSlot) (l := slotL gone) ?_
  refine LOps.gen (fun S' => S.le S' ∧ S'.box b4 = some (leafL l) ∧ S'.box b5 = some (slotL s) ∧ S'.box b6 = some (markL m) ∧ S'.box b7 = some ([iv x, u64 y]) ∧ S'.box b9 = some (leafL A) ∧ S'.box b10 = some (slotL o1) ∧ S'.box b12 = some (leafL B) ∧ S'.box b13 = some (slotL gone) ∧ S'.box b15 = some (leafL C1) ∧ S'.box b16 = some (leafL C2) ∧ S'.box b17 = some (markL sep) ∧ S'.box b18 = some (slotL gone)) ⟨hle.setBox s18 _, (box_set_ne _ _ n4_18).trans k4, (box_set_ne _ _ n5_18).trans k5, (box_set_ne _ _ n6_18).trans k6, (box_set_ne _ _ n7_18).trans k7, (box_set_ne _ _ n9_18).trans k9, (box_set_ne _ _ n10_18).trans k10, (box_set_ne _ _ n12_18).trans k12, (box_set_ne _ _ n13_18).trans k13, (box_set_ne _ _ n15_18).trans k15, (box_set_ne _ _ n16_18).trans k16, (box_set_ne _ _ n17_18).trans k17, (box_set _ _ _).trans (congrArg some (rfl))⟩ ?_
  clear hle k4 k5 k6 k7 k9 k10 k12 k13 k15 k16 k17 k18
  rintro Ss ⟨hle, k4, k5, k6, k7, k9, k10, k12, k13, k15, k16, k17, k18⟩
  refine LOps.valG (r := .one (bv there)) (LVal.to (LVal.move (.inr rfl)) rfl) rfl rfl rfl ?_
  have c9 := len_L hP B K.cb.ok.p
  have c10 := len_L hP l hl.p
  repeat (first | (refine LWp.seq (LWp.cut 11 (fun T' S' => S' = Ss ∧ ∃ T'', T' = over T'' [(4, ptr b4), (5, ptr b5), (6, ptr b6), (7, ptr b7), (9, ptr b9), (10, ptr b10), (12, ptr b12), (15, ptr b15), (16, ptr b16), (17, ptr b17), (18, ptr b18), (11, .one (bv had)), (19, .one (bv there))]) rfl ?_ ?_); rotate_left) | refine LOps.nil ?_ | refine andThen_normal ?_ | refine andThen_exit ?_ | refine andThen_ret ?_ | refine inBlock_normal ?_ | refine inBlock_ret ?_ | refine inBlock_here ?_ | refine inBlock_out rfl ?_ | refine LWp.seq ?_ | refine LWp.region ?_ | refine LWp.block ?_ | refine LWp.exit ?_ | refine LWp.ret ?_ | refine LWp.skip ?_)
  rotate_left
  · cases there with
    | false =>
      have e := K.cb.same (by rw [K.hw])
      repeat (first | refine LOps.nil ?_ | refine andThen_normal ?_ | refine andThen_exit ?_ | refine andThen_ret ?_ | refine inBlock_normal ?_ | refine inBlock_ret ?_ | refine inBlock_here ?_ | refine inBlock_out rfl ?_ | refine LWp.seq ?_ | refine LWp.region ?_ | refine LWp.block ?_ | refine LWp.exit ?_ | refine LWp.ret ?_ | refine LWp.skip ?_)
      refine LWp.drawL [0, 1, 2, 3, 4, 5, 6, 7, 8, 9, 10, 11, 12, 13, 14, 15, 16, 17, 18, 19, 20, 21, 22, 23, 24, 25, 26, 27] (by rw [hP]; rfl) rfl ?_
      refine LRl.val (r := .one (bv false)) (fun _ hS => LVal.to (LVal.move (.inl rfl)) rfl) rfl rfl rfl ?_
      refine LRl.val (r := .one (bv false)) (fun _ hS => LVal.to (LVal.move (.inl rfl)) rfl) rfl rfl rfl ?_
      refine LRl.val (r := .one (bv false)) (fun _ hS => LVal.to (LVal.binOp hD rfl rfl rfl rfl) rfl) rfl rfl rfl ?_
      refine LRl.val (r := .one (bv false)) (fun _ hS => LVal.to (LVal.move (.inl rfl)) rfl) rfl rfl rfl ?_
      refine LRl.val (r := .agg (slotL gone)) (fun _ hS => LVal.load hD rfl rfl (hS.box _ _ k13 id) rfl (rdSl2 gone)) rfl rfl rfl ?_
      refine LRl.val (r := .agg (slotL gone)) (fun _ hS => LVal.load hD rfl rfl (hS.box _ _ k18 id) rfl (rdSl2 gone)) rfl rfl rfl ?_
      refine LRl.val (r := .one (bv false)) (fun _ hS => LVal.to (LVal.neqAgg hD rfl rfl rfl rfl rfl eb rfl) (by exact congrArg (fun b => TV.one (bv (!b))) (slot_self _))) rfl rfl rfl ?_
      refine LRl.val (r := .one (bv false)) (fun _ hS => LVal.to (LVal.pick rfl rfl) rfl) rfl rfl rfl ?_
      refine LRl.val (r := .one (bv false)) (fun _ hS => LVal.to (LVal.move (.inl rfl)) rfl) rfl rfl rfl ?_
      refine LRl.val (r := .one (bv false)) (fun _ hS => LVal.to (LVal.move (.inl rfl)) rfl) rfl rfl rfl ?_
      refine LRl.val (r := .one (bv false)) (fun _ hS => LVal.to (LVal.move (.inl rfl)) rfl) rfl rfl rfl ?_
      refine LRl.outA ?_
      refine LRl.outA ?_
      refine LRl.outA ?_
      refine LRl.outA ?_
      refine LRl.outA ?_
      refine LRl.outA ?_
      refine LRl.val (r := .one (bv false)) (fun _ hS => LVal.to (LVal.pick rfl rfl) rfl) rfl rfl rfl ?_
      refine LRl.val (r := .one (bv false)) (fun _ hS => LVal.to (LVal.pick rfl rfl) rfl) rfl rfl rfl ?_
      refine LRl.val (r := .one (bv false)) (fun _ hS => LVal.to (LVal.move (.inl rfl)) rfl) rfl rfl rfl ?_
      refine LRl.val (r := .one (bv false)) (fun _ hS => LVal.to (LVal.move (.inl rfl)) rfl) rfl rfl rfl ?_
      refine LRl.val (r := .one (bv true)) (fun _ hS => LVal.to (LVal.unOp rfl rfl rfl) rfl) rfl rfl rfl ?_
      refine LRl.val (r := .one (bv true)) (fun _ hS => LVal.to (LVal.move (.inl rfl)) rfl) rfl rfl rfl ?_
      refine LRl.val (r := .agg (leafL l)) (fun _ hS => LVal.to (LVal.load hD rfl rfl (hS.box _ _ k12 id) rfl (rdLeaf B)) (by rw [e])) rfl rfl rfl ?_
      refine LRl.val (r := .agg (leafL l)) (fun _ hS => LVal.load hD rfl rfl (hS.box _ _ k4 id) rfl (rdLeaf l)) rfl rfl rfl ?_
      refine LRl.val (r := .one (bv false)) (fun _ hS => LVal.neqLeaf hP rfl rfl rfl) rfl rfl rfl ?_
      refine LRl.val (r := .one (bv false)) (fun _ hS => LVal.to (LVal.pick rfl rfl) rfl) rfl rfl rfl ?_
      refine LRl.val (r := .one (bv false)) (fun _ hS => LVal.to (LVal.pick rfl rfl) rfl) rfl rfl rfl ?_
      refine LRl.nil ?_
      repeat (first | refine LOps.nil ?_ | refine andThen_normal ?_ | refine andThen_exit ?_ | refine andThen_ret ?_ | refine inBlock_normal ?_ | refine inBlock_ret ?_ | refine inBlock_here ?_ | refine inBlock_out rfl ?_ | refine LWp.seq ?_ | refine LWp.region ?_ | refine LWp.block ?_ | refine LWp.exit ?_ | refine LWp.ret ?_ | refine LWp.skip ?_ | refine LWp.condF rfl ?_)
      exact ⟨rfl, _, holds.over ⟨rfl, rfl, rfl, rfl, rfl, rfl, rfl, rfl, rfl, rfl, rfl, rfl, rfl, trivial⟩⟩
    | true =>
      have e := K.cb.n (by rw [K.hw])
      repeat (first | refine LOps.nil ?_ | refine andThen_normal ?_ | refine andThen_exit ?_ | refine andThen_ret ?_ | refine inBlock_normal ?_ | refine inBlock_ret ?_ | refine inBlock_here ?_ | refine inBlock_out rfl ?_ | refine LWp.seq ?_ | refine LWp.region ?_ | refine LWp.block ?_ | refine LWp.exit ?_ | refine LWp.ret ?_ | refine LWp.skip ?_)
      refine LWp.drawL [0, 1, 2, 3, 4, 5, 6, 7, 8, 9, 10, 11, 12, 13, 14, 15, 16, 17, 18, 19, 20, 21, 22, 23, 24, 25, 26, 27] (by rw [hP]; rfl) rfl ?_
      refine LRl.val (r := .one (bv true)) (fun _ hS => LVal.to (LVal.move (.inl rfl)) rfl) rfl rfl rfl ?_
      refine LRl.val (r := .one (bv true)) (fun _ hS => LVal.to (LVal.move (.inl rfl)) rfl) rfl rfl rfl ?_
      refine LRl.val (r := .one (bv false)) (fun _ hS => LVal.to (LVal.binOp hD rfl rfl rfl rfl) rfl) rfl rfl rfl ?_
      refine LRl.val (r := .one (bv false)) (fun _ hS => LVal.to (LVal.move (.inl rfl)) rfl) rfl rfl rfl ?_
      refine LRl.val (r := .agg (slotL gone)) (fun _ hS => LVal.load hD rfl rfl (hS.box _ _ k13 id) rfl (rdSl2 gone)) rfl rfl rfl ?_
      refine LRl.val (r := .agg (slotL gone)) (fun _ hS => LVal.load hD rfl rfl (hS.box _ _ k18 id) rfl (rdSl2 gone)) rfl rfl rfl ?_
      refine LRl.val (r := .one (bv false)) (fun _ hS => LVal.to (LVal.neqAgg hD rfl rfl rfl rfl rfl eb rfl) (by exact congrArg (fun b => TV.one (bv (!b))) (slot_self _))) rfl rfl rfl ?_
      refine LRl.val (r := .one (bv false)) (fun _ hS => LVal.to (LVal.pick rfl rfl) rfl) rfl rfl rfl ?_
      refine LRl.val (r := .one (bv false)) (fun _ hS => LVal.to (LVal.move (.inl rfl)) rfl) rfl rfl rfl ?_
      refine LRl.val (r := .one (bv true)) (fun _ hS => LVal.to (LVal.move (.inl rfl)) rfl) rfl rfl rfl ?_
      refine LRl.val (r := .one (bv true)) (fun _ hS => LVal.to (LVal.move (.inl rfl)) rfl) rfl rfl rfl ?_
      refine LRl.val (r := .agg (leafL B)) (fun _ hS => LVal.load hD rfl rfl (hS.box _ _ k12 id) rfl (rdLeaf B)) rfl rfl rfl ?_
      refine LRl.val (r := .one (iv ((B.p % 16 : Nat) : Int))) (fun _ hS => LVal.call rfl rfl (by rw [hP]; exact Try.func15) rfl (by decide) (c9)) rfl rfl rfl ?_
      refine LRl.val (r := .agg (leafL l)) (fun _ hS => LVal.load hD rfl rfl (hS.box _ _ k4 id) rfl (rdLeaf l)) rfl rfl rfl ?_
      refine LRl.val (r := .one (iv ((l.p % 16 : Nat) : Int))) (fun _ hS => LVal.call rfl rfl (by rw [hP]; exact Try.func15) rfl (by decide) (c10)) rfl rfl rfl ?_
      refine LRl.val (r := .one (iv (((l.p % 16 : Nat) : Int) - 1))) (fun _ hS => LVal.sub64 rfl rfl rfl (by omega)) rfl rfl rfl ?_
      refine LRl.val (r := .one (bv false)) (fun _ hS => LVal.to (LVal.binOp hD rfl rfl rfl rfl) (by exact congrArg (fun b => TV.one (bv b)) (bne_eq_false_iff_eq.2 (by omega)))) rfl rfl rfl ?_
      refine LRl.val (r := .one (bv false)) (fun _ hS => LVal.to (LVal.pick rfl rfl) rfl) rfl rfl rfl ?_
      refine LRl.val (r := .one (bv false)) (fun _ hS => LVal.to (LVal.pick rfl rfl) rfl) rfl rfl rfl ?_
      refine LRl.val (r := .one (bv false)) (fun _ hS => LVal.to (LVal.move (.inl rfl)) rfl) rfl rfl rfl ?_
      refine LRl.val (r := .one (bv true)) (fun _ hS => LVal.to (LVal.move (.inl rfl)) rfl) rfl rfl rfl ?_
      refine LRl.val (r := .one (bv false)) (fun _ hS => LVal.to (LVal.unOp rfl rfl rfl) rfl) rfl rfl rfl ?_
      refine LRl.val (r := .one (bv false)) (fun _ hS => LVal.to (LVal.move (.inl rfl)) rfl) rfl rfl rfl ?_
      refine LRl.outA ?_
      refine LRl.outA ?_
      refine LRl.outA ?_
      refine LRl.val (r := .one (bv false)) (fun _ hS => LVal.to (LVal.pick rfl rfl) rfl) rfl rfl rfl ?_
      refine LRl.val (r := .one (bv false)) (fun _ hS => LVal.to (LVal.pick rfl rfl) rfl) rfl rfl rfl ?_
      refine LRl.nil ?_
      repeat (first | refine LOps.nil ?_ | refine andThen_normal ?_ | refine andThen_exit ?_ | refine andThen_ret ?_ | refine inBlock_normal ?_ | refine inBlock_ret ?_ | refine inBlock_here ?_ | refine inBlock_out rfl ?_ | refine LWp.seq ?_ | refine LWp.region ?_ | refine LWp.block ?_ | refine LWp.exit ?_ | refine LWp.ret ?_ | refine LWp.skip ?_ | refine LWp.condF rfl ?_)
      exact ⟨rfl, _, holds.over ⟨rfl, rfl, rfl, rfl, rfl, rfl, rfl, rfl, rfl, rfl, rfl, rfl, rfl, trivial⟩⟩
  rintro _ S13 ⟨rfl, T13, rfl⟩
  clear k13 c5 c6 c7 c8 c9
  have c11 := right_S hP s hs
  have c12 := covers_F hP l s.m
  have c13 := hasLeaf_L hP A K.pa.ok s.m
  obtain ⟨pu, hpu⟩ : ∃ pu, pu = ((rightS s && coversL l s.m) && (there || decide (((l.p % 16 : Nat) : Int) < 15))) := ⟨_, rfl⟩
  have hpu2 : pu = (rightS s && coversL l s.m && ((hasL l s.m).2 || decide (l.p % 16 < 15))) := by rw [hpu, K.hw, show decide (((l.p % 16 : Nat) : Int) < 15) = decide (l.p % 16 < 15) from decide_eq_decide.2 (by omega)]
  obtain ⟨now, on, hno⟩ : ∃ now on, hasL A s.m = (now, on) := ⟨_, _, rfl⟩
  rw [hno] at c13
  repeat (first | refine LOps.nil ?_ | refine andThen_normal ?_ | refine andThen_exit ?_ | refine andThen_ret ?_ | refine inBlock_normal ?_ | refine inBlock_ret ?_ | refine inBlock_here ?_ | refine inBlock_out rfl ?_ | refine LWp.seq ?_ | refine LWp.region ?_ | refine LWp.block ?_ | refine LWp.exit ?_ | refine LWp.ret ?_ | refine LWp.skip ?_)
  refine LOps.valG (r := .agg (slotL s)) (LVal.load hD rfl rfl k5 rfl (rdSl2 s)) rfl rfl rfl ?_
  refine LOps.valG (r := .one (bv (rightS s))) (LVal.call rfl rfl (by rw [hP]; exact Try.func13) rfl (by decide) (c11)) rfl rfl rfl ?_
  refine LOps.valG (r := .one (bv (rightS s))) (LVal.to (LVal.move (.inl rfl)) rfl) rfl rfl rfl ?_
  refine LOps.whenC (LVal.load hD rfl rfl k4 rfl (rdLeaf l)) ?_
  refine LOps.whenC (LVal.fieldAddr hD rfl rfl rfl rfl rfl rfl (by decide)) ?_
  refine LOps.whenC (LVal.load hD rfl rfl k5 rfl (rdSlM s)) ?_
  refine LOps.whenC (LVal.call rfl rfl (by rw [hP]; exact Try.func14) rfl (by decide) c12) ?_
  refine LOps.valA ?_
  refine LOps.valA ?_
  refine LOps.whenA ?_
  refine LOps.whenA ?_
  refine LOps.whenC (LVal.load hD rfl rfl k4 rfl (rdLeaf l)) ?_
  refine LOps.whenC (LVal.call rfl rfl (by rw [hP]; exact Try.func15) rfl (by decide) c10) ?_
  refine LOps.whenA ?_
  refine LOps.pickA ?_
  refine LOps.valA ?_
  refine LOps.valH (LVal.to (LVal.assign1 rfl rfl) (r' := .one (bv pu)) (by exact congrArg (fun b => TV.one (bv b)) hpu.symm)) ?_
  repeat (first | refine LOps.nil ?_ | refine andThen_normal ?_ | refine andThen_exit ?_ | refine andThen_ret ?_ | refine inBlock_normal ?_ | refine inBlock_ret ?_ | refine inBlock_here ?_ | refine inBlock_out rfl ?_ | refine LWp.seq ?_ | refine LWp.region ?_ | refine LWp.block ?_ | refine LWp.exit ?_ | refine LWp.ret ?_ | refine LWp.skip ?_)
  refine LOps.valG (r := .agg (leafL A)) (LVal.load hD rfl rfl k9 rfl (rdLeaf A)) rfl rfl rfl ?_
  refine LOps.valG (LVal.fieldAddr hD rfl rfl rfl rfl rfl rfl (by decide)) rfl rfl rfl ?_
  refine LOps.valG (r := .agg (markL s.m)) (LVal.load hD rfl rfl k5 rfl (rdSlM s)) rfl rfl rfl ?_
  refine LOps.valG (r := .tup [.agg (slotL now), .one (bv on)]) (LVal.call rfl rfl (by rw [hP]; exact Try.func45) rfl (by decide) (c13)) rfl rfl rfl ?_
  refine LOps.valG (LVal.move (.inl rfl)) rfl rfl rfl ?_
  refine LOps.valG (r := .agg (slotL now)) (LVal.to (LVal.extract rfl rfl rfl) rfl) rfl rfl rfl ?_
  refine LOps.valG (r := .one (bv on)) (LVal.to (LVal.extract rfl rfl rfl) rfl) rfl rfl rfl ?_
  skip
  refine LOps.do (LDo.alloc hD rfl rfl rfl) rfl rfl rfl ?_
  rintro _ _ ⟨b21, hb21, rfl, rfl⟩
  have n4_21 := fresh_ne hb21 k4
  have m21_4 := n4_21.symm
  have n5_21 := fresh_ne hb21 k5
  have m21_5 := n5_21.symm
  have n6_21 := fresh_ne hb21 k6
  have m21_6 := n6_21.symm
  have n7_21 := fresh_ne hb21 k7
  have m21_7 := n7_21.symm
  have n9_21 := fresh_ne hb21 k9
  have m21_9 := n9_21.symm
  have n10_21 := fresh_ne hb21 k10
  have m21_10 := n10_21.symm
  have n12_21 := fresh_ne hb21 k12
  have m21_12 := n12_21.symm
  have n15_21 := fresh_ne hb21 k15
  have m21_15 := n15_21.symm
  have n16_21 := fresh_ne hb21 k16
  have m21_16 := n16_21.symm
  have n17_21 := fresh_ne hb21 k17
  have m21_17 := n17_21.symm
  have n18_21 := fresh_ne hb21 k18
  have m21_18 := n18_21.symm
  have s21 := hle.none hb21
  refine LOps.gen (fun S' => S.le S' ∧ S'.box b4 = some (leafL l) ∧ S'.box b5 = some (slotL s) ∧ S'.box b6 = some (markL m) ∧ S'.box b7 = some ([iv x, u64 y]) ∧ S'.box b9 = some (leafL A) ∧ S'.box b10 = some (slotL o1) ∧ S'.box b12 = some (leafL B) ∧ S'.box b15 = some (leafL C1) ∧ S'.box b16 = some (leafL C2) ∧ S'.box b17 = some (markL sep) ∧ S'.box b18 = some (slotL gone) ∧ S'.box b21 = some (slotL noSlot)) ⟨hle.newBox hb21 _, (box_new_ne _ _ n4_21).trans k4, (box_new_ne _ _ n5_21).trans k5, (box_new_ne _ _ n6_21).trans k6, (box_new_ne _ _ n7_21).trans k7, (box_new_ne _ _ n9_21).trans k9, (box_new_ne _ _ n10_21).trans k10, (box_new_ne _ _ n12_21).trans k12, (box_new_ne _ _ n15_21).trans k15, (box_new_ne _ _ n16_21).trans k16, (box_new_ne _ _ n17_21).trans k17, (box_new_ne _ _ n18_21).trans k18, box_new _ _ _⟩ ?_
  clear hle hb21 k4 k5 k6 k7 k9 k10 k12 k15 k16 k17 k18
  rintro S21 ⟨hle, k4, k5, k6, k7, k9, k10, k12, k15, k16, k17, k18, k21⟩
  refine LOps.storeA (b := b21) (off := 0) (cs := slotL noSlot) (l := slotL now) ?_
  refine LOps.gen (fun S' => S.le S' ∧ S'.box b4 = some (leafL l) ∧ S'.box b5 = some (slotL s) ∧ S'.box b6 = some (markL m) ∧ S'.box b7 = some ([iv x, u64 y]) ∧ S'.box b9 = some (leafL A) ∧ S'.box b10 = some (slotL o1) ∧ S'.box b12 = some (leafL B) ∧ S'.box b15 = some (leafL C1) ∧ S'.box b16 = some (leafL C2) ∧ S'.box b17 = some (markL sep) ∧ S'.box b18 = some (slotL gone) ∧ S'.box b21 = some (slotL now)) ⟨hle.setBox s21 _, (box_set_ne _ _ n4_21).trans k4, (box_set_ne _ _ n5_21).trans k5, (box_set_ne _ _ n6_21).trans k6, (box_set_ne _ _ n7_21).trans k7, (box_set_ne _ _ n9_21).trans k9, (box_set_ne _ _ n10_21).trans k10, (box_set_ne _ _ n12_21).trans k12, (box_set_ne _ _ n15_21).trans k15, (box_set_ne _ _ n16_21).trans k16, (box_set_ne _ _ n17_21).trans k17, (box_set_ne _ _ n18_21).trans k18, (box_set _ _ _).trans (congrArg some (rfl))⟩ ?_
  clear hle k4 k5 k6 k7 k9 k10 k12 k15 k16 k17 k18 k21
  rintro Ss ⟨hle, k4, k5, k6, k7, k9, k10, k12, k15, k16, k17, k18, k21⟩
  refine LOps.valG (r := .one (bv on)) (LVal.to (LVal.move (.inr rfl)) rfl) rfl rfl rfl ?_
  repeat (first | (refine LWp.seq (LWp.cut 15 (fun T' S' => S' = Ss ∧ ∃ T'', T' = over T'' [(4, ptr b4), (5, ptr b5), (6, ptr b6), (7, ptr b7), (9, ptr b9), (12, ptr b12), (15, ptr b15), (16, ptr b16), (17, ptr b17)]) rfl ?_ ?_); rotate_left) | refine LOps.nil ?_ | refine andThen_normal ?_ | refine andThen_exit ?_ | refine andThen_ret ?_ | refine inBlock_normal ?_ | refine inBlock_ret ?_ | refine inBlock_here ?_ | refine inBlock_out rfl ?_ | refine LWp.seq ?_ | refine LWp.region ?_ | refine LWp.block ?_ | refine LWp.exit ?_ | refine LWp.ret ?_ | refine LWp.skip ?_)
  rotate_left
  · cases pu with
    | true =>
      have yy := K.pa.yes hpu2.symm
      rw [hno, K.hw] at yy
      obtain ⟨y1, y2, y3⟩ := yy
      have y2 : had = there := y2
      have y3 : o1 = gone := y3
      clear hno hpu hpu2 c13
      cases y1
      subst y2
      subst y3
      repeat (first | refine LOps.nil ?_ | refine andThen_normal ?_ | refine andThen_exit ?_ | refine andThen_ret ?_ | refine inBlock_normal ?_ | refine inBlock_ret ?_ | refine inBlock_here ?_ | refine inBlock_out rfl ?_ | refine LWp.seq ?_ | refine LWp.region ?_ | refine LWp.block ?_ | refine LWp.exit ?_ | refine LWp.ret ?_ | refine LWp.skip ?_)
      refine LOps.valG (r := .one (bv true)) (LVal.to (LVal.move (.inl rfl)) rfl) rfl rfl rfl ?_
      refine LOps.valG (r := .one (bv true)) (LVal.to (LVal.move (.inl rfl)) rfl) rfl rfl rfl ?_
      refine LOps.valG (r := .one (bv true)) (LVal.to (LVal.move (.inl rfl)) rfl) rfl rfl rfl ?_
      refine LOps.valG (r := .one (bv false)) (LVal.to (LVal.unOp rfl rfl rfl) rfl) rfl rfl rfl ?_
      refine LOps.valG (r := .one (bv false)) (LVal.to (LVal.move (.inl rfl)) rfl) rfl rfl rfl ?_
      refine LOps.valG (r := .agg (slotL s)) (LVal.load hD rfl rfl k21 rfl (rdSl2 s)) rfl rfl rfl ?_
      refine LOps.valG (r := .agg (slotL s)) (LVal.load hD rfl rfl k5 rfl (rdSl2 s)) rfl rfl rfl ?_
      refine LOps.valG (r := .one (bv false)) (LVal.to (LVal.neqAgg hD rfl rfl rfl rfl rfl eb rfl) (by exact congrArg (fun b => TV.one (bv (!b))) (slot_self _))) rfl rfl rfl ?_
      refine LOps.valG (r := .one (bv false)) (LVal.to (LVal.pick rfl rfl) rfl) rfl rfl rfl ?_
      refine LOps.valG (r := .one (bv false)) (LVal.to (LVal.move (.inl rfl)) rfl) rfl rfl rfl ?_
      refine LOps.valG (r := .one (bv had)) (LVal.to (LVal.move (.inl rfl)) rfl) rfl rfl rfl ?_
      refine LOps.valG (r := .one (bv had)) (LVal.to (LVal.move (.inl rfl)) rfl) rfl rfl rfl ?_
      refine LOps.valG (r := .one (bv false)) (LVal.to (LVal.binOp hD rfl rfl rfl rfl) (by exact congrArg (fun b => TV.one (bv b)) (bne_self2 _))) rfl rfl rfl ?_
      refine LOps.valG (r := .one (bv false)) (LVal.to (LVal.pick rfl rfl) rfl) rfl rfl rfl ?_
      refine LOps.valG (r := .one (bv false)) (LVal.to (LVal.move (.inl rfl)) rfl) rfl rfl rfl ?_
      refine LOps.valG (r := .agg (slotL o1)) (LVal.load hD rfl rfl k10 rfl (rdSl2 o1)) rfl rfl rfl ?_
      refine LOps.valG (r := .agg (slotL o1)) (LVal.load hD rfl rfl k18 rfl (rdSl2 o1)) rfl rfl rfl ?_
      refine LOps.valG (r := .one (bv false)) (LVal.to (LVal.neqAgg hD rfl rfl rfl rfl rfl eb rfl) (by exact congrArg (fun b => TV.one (bv (!b))) (slot_self _))) rfl rfl rfl ?_
      refine LOps.valG (r := .one (bv false)) (LVal.to (LVal.pick rfl rfl) rfl) rfl rfl rfl ?_
      refine LOps.valG (r := .one (bv false)) (LVal.to (LVal.pick rfl rfl) rfl) rfl rfl rfl ?_
      refine LOps.valG (r := .one (bv false)) (LVal.to (LVal.move (.inl rfl)) rfl) rfl rfl rfl ?_
      refine LOps.valG (r := .one (bv true)) (LVal.to (LVal.move (.inl rfl)) rfl) rfl rfl rfl ?_
      refine LOps.valG (r := .one (bv false)) (LVal.to (LVal.unOp rfl rfl rfl) rfl) rfl rfl rfl ?_
      refine LOps.valG (r := .one (bv false)) (LVal.to (LVal.move (.inl rfl)) rfl) rfl rfl rfl ?_
      refine LOps.outA ?_
      refine LOps.outA ?_
      refine LOps.outA ?_
      refine LOps.valG (r := .one (bv false)) (LVal.to (LVal.pick rfl rfl) rfl) rfl rfl rfl ?_
      refine LOps.valG (r := .one (bv false)) (LVal.to (LVal.pick rfl rfl) rfl) rfl rfl rfl ?_
      repeat (first | refine LOps.nil ?_ | refine andThen_normal ?_ | refine andThen_exit ?_ | refine andThen_ret ?_ | refine inBlock_normal ?_ | refine inBlock_ret ?_ | refine inBlock_here ?_ | refine inBlock_out rfl ?_ | refine LWp.seq ?_ | refine LWp.region ?_ | refine LWp.block ?_ | refine LWp.exit ?_ | refine LWp.ret ?_ | refine LWp.skip ?_ | refine LWp.condF rfl ?_)
      exact ⟨rfl, _, holds.over ⟨rfl, rfl, rfl, rfl, rfl, rfl, rfl, rfl, rfl, trivial⟩⟩
    | false =>
      have e := K.pa.no hpu2.symm
      repeat (first | refine LOps.nil ?_ | refine andThen_normal ?_ | refine andThen_exit ?_ | refine andThen_ret ?_ | refine inBlock_normal ?_ | refine inBlock_ret ?_ | refine inBlock_here ?_ | refine inBlock_out rfl ?_ | refine LWp.seq ?_ | refine LWp.region ?_ | refine LWp.block ?_ | refine LWp.exit ?_ | refine LWp.ret ?_ | refine LWp.skip ?_)
      refine LOps.valG (r := .one (bv false)) (LVal.to (LVal.move (.inl rfl)) rfl) rfl rfl rfl ?_
      refine LOps.valG (r := .one (bv false)) (LVal.to (LVal.move (.inl rfl)) rfl) rfl rfl rfl ?_
      refine LOps.outA ?_
      refine LOps.outA ?_
      refine LOps.outA ?_
      refine LOps.outA ?_
      refine LOps.outA ?_
      refine LOps.outA ?_
      refine LOps.outA ?_
      refine LOps.outA ?_
      refine LOps.outA ?_
      refine LOps.outA ?_
      refine LOps.outA ?_
      refine LOps.outA ?_
      refine LOps.outA ?_
      refine LOps.outA ?_
      refine LOps.outA ?_
      refine LOps.outA ?_
      refine LOps.outA ?_
      refine LOps.valG (r := .one (bv false)) (LVal.to (LVal.pick rfl rfl) rfl) rfl rfl rfl ?_
      refine LOps.valG (r := .one (bv false)) (LVal.to (LVal.move (.inl rfl)) rfl) rfl rfl rfl ?_
      refine LOps.valG (r := .one (bv false)) (LVal.to (LVal.move (.inl rfl)) rfl) rfl rfl rfl ?_
      refine LOps.valG (r := .one (bv true)) (LVal.to (LVal.unOp rfl rfl rfl) rfl) rfl rfl rfl ?_
      refine LOps.valG (r := .one (bv true)) (LVal.to (LVal.move (.inl rfl)) rfl) rfl rfl rfl ?_
      refine LOps.valG (r := .agg (leafL l)) (LVal.to (LVal.load hD rfl rfl k9 rfl (rdLeaf A)) (by rw [e])) rfl rfl rfl ?_
      refine LOps.valG (r := .agg (leafL l)) (LVal.load hD rfl rfl k4 rfl (rdLeaf l)) rfl rfl rfl ?_
      refine LOps.valG (r := .one (bv false)) (LVal.neqLeaf hP rfl rfl rfl) rfl rfl rfl ?_
      refine LOps.valG (r := .one (bv false)) (LVal.to (LVal.pick rfl rfl) rfl) rfl rfl rfl ?_
      refine LOps.valG (r := .one (bv false)) (LVal.to (LVal.pick rfl rfl) rfl) rfl rfl rfl ?_
      repeat (first | refine LOps.nil ?_ | refine andThen_normal ?_ | refine andThen_exit ?_ | refine andThen_ret ?_ | refine inBlock_normal ?_ | refine inBlock_ret ?_ | refine inBlock_here ?_ | refine inBlock_out rfl ?_ | refine LWp.seq ?_ | refine LWp.region ?_ | refine LWp.block ?_ | refine LWp.exit ?_ | refine LWp.ret ?_ | refine LWp.skip ?_ | refine LWp.condF rfl ?_)
      exact ⟨rfl, _, holds.over ⟨rfl, rfl, rfl, rfl, rfl, rfl, rfl, rfl, rfl, trivial⟩⟩
  rintro _ S15 ⟨rfl, T15, rfl⟩
  clear k10 k18 k21 c11 c12 c13 hpu hpu2 hno
  have c14 := hasLeaf_L hP B K.cb.ok s.m
  rw [K.cb.no] at c14
  repeat (first | refine LOps.nil ?_ | refine andThen_normal ?_ | refine andThen_exit ?_ | refine andThen_ret ?_ | refine inBlock_normal ?_ | refine inBlock_ret ?_ | refine inBlock_here ?_ | refine inBlock_out rfl ?_ | refine LWp.seq ?_ | refine LWp.region ?_ | refine LWp.block ?_ | refine LWp.exit ?_ | refine LWp.ret ?_ | refine LWp.skip ?_)
  refine LOps.valG (r := .agg (leafL B)) (LVal.load hD rfl rfl k12 rfl (rdLeaf B)) rfl rfl rfl ?_
  refine LOps.valG (LVal.fieldAddr hD rfl rfl rfl rfl rfl rfl (by decide)) rfl rfl rfl ?_
  refine LOps.valG (r := .agg (markL s.m)) (LVal.load hD rfl rfl k5 rfl (rdSlM s)) rfl rfl rfl ?_
  refine LOps.valG (r := .tup [.agg (slotL (hasL B s.m).1), .one (bv false)]) (LVal.call rfl rfl (by rw [hP]; exact Try.func45) rfl (by decide) (c14)) rfl rfl rfl ?_
  refine LOps.valG (LVal.move (.inl rfl)) rfl rfl rfl ?_
  refine LOps.valG (r := .agg (slotL (hasL B s.m).1)) (LVal.to (LVal.extract rfl rfl rfl) rfl) rfl rfl rfl ?_
  refine LOps.valG (r := .one (bv false)) (LVal.to (LVal.extract rfl rfl rfl) rfl) rfl rfl rfl ?_
  skip
  refine LOps.do (LDo.alloc hD rfl rfl rfl) rfl rfl rfl ?_
  rintro _ _ ⟨b23, hb23, rfl, rfl⟩
  have n4_23 := fresh_ne hb23 k4
  have m23_4 := n4_23.symm
  have n5_23 := fresh_ne hb23 k5
  have m23_5 := n5_23.symm
  have n6_23 := fresh_ne hb23 k6
  have m23_6 := n6_23.symm
  have n7_23 := fresh_ne hb23 k7
  have m23_7 := n7_23.symm
  have n9_23 := fresh_ne hb23 k9
  have m23_9 := n9_23.symm
  have n12_23 := fresh_ne hb23 k12
  have m23_12 := n12_23.symm
  have n15_23 := fresh_ne hb23 k15
  have m23_15 := n15_23.symm
  have n16_23 := fresh_ne hb23 k16
  have m23_16 := n16_23.symm
  have n17_23 := fresh_ne hb23 k17
  have m23_17 := n17_23.symm
  have s23 := hle.none hb23
  refine LOps.gen (fun S' => S.le S' ∧ S'.box b4 = some (leafL l) ∧ S'.box b5 = some (slotL s) ∧ S'.box b6 = some (markL m) ∧ S'.box b7 = some ([iv x, u64 y]) ∧ S'.box b9 = some (leafL A) ∧ S'.box b12 = some (leafL B) ∧ S'.box b15 = some (leafL C1) ∧ S'.box b16 = some (leafL C2) ∧ S'.box b17 = some (markL sep) ∧ S'.box b23 = some (slotL noSlot)) ⟨hle.newBox hb23 _, (box_new_ne _ _ n4_23).trans k4, (box_new_ne _ _ n5_23).trans k5, (box_new_ne _ _ n6_23).trans k6, (box_new_ne _ _ n7_23).trans k7, (box_new_ne _ _ n9_23).trans k9, (box_new_ne _ _ n12_23).trans k12, (box_new_ne _ _ n15_23).trans k15, (box_new_ne _ _ n16_23).trans k16, (box_new_ne _ _ n17_23).trans k17, box_new _ _ _⟩ ?_
  clear hle hb23 k4 k5 k6 k7 k9 k12 k15 k16 k17
  rintro S23 ⟨hle, k4, k5, k6, k7, k9, k12, k15, k16, k17, k23⟩
  refine LOps.storeA (b := b23) (off := 0) (cs := slotL noSlot) (l := slotL (hasL B s.m).1) ?_
  refine LOps.gen (fun S' => S.le S' ∧ S'.box b4 = some (leafL l) ∧ S'.box b5 = some (slotL s) ∧ S'.box b6 = some (markL m) ∧ S'.box b7 = some ([iv x, u64 y]) ∧ S'.box b9 = some (leafL A) ∧ S'.box b12 = some (leafL B) ∧ S'.box b15 = some (leafL C1) ∧ S'.box b16 = some (leafL C2) ∧ S'.box b17 = some (markL sep) ∧ S'.box b23 = some (slotL (hasL B s.m).1)) ⟨hle.setBox s23 _, (box_set_ne _ _ n4_23).trans k4, (box_set_ne _ _ n5_23).trans k5, (box_set_ne _ _ n6_23).trans k6, (box_set_ne _ _ n7_23).trans k7, (box_set_ne _ _ n9_23).trans k9, (box_set_ne _ _ n12_23).trans k12, (box_set_ne _ _ n15_23).trans k15, (box_set_ne _ _ n16_23).trans k16, (box_set_ne _ _ n17_23).trans k17, (box_set _ _ _).trans (congrArg some (rfl))⟩ ?_
  clear hle k4 k5 k6 k7 k9 k12 k15 k16 k17 k23
  rintro Ss ⟨hle, k4, k5, k6, k7, k9, k12, k15, k16, k17, k23⟩
  refine LOps.valG (r := .one (bv false)) (LVal.to (LVal.move (.inr rfl)) rfl) rfl rfl rfl ?_
  repeat (first | refine LOps.nil ?_ | refine andThen_normal ?_ | refine andThen_exit ?_ | refine andThen_ret ?_ | refine inBlock_normal ?_ | refine inBlock_ret ?_ | refine inBlock_here ?_ | refine inBlock_out rfl ?_ | refine LWp.seq ?_ | refine LWp.region ?_ | refine LWp.block ?_ | refine LWp.exit ?_ | refine LWp.ret ?_ | refine LWp.skip ?_)
  refine LOps.valG (r := .one (bv false)) (LVal.to (LVal.move (.inl rfl)) rfl) rfl rfl rfl ?_
  repeat (first | refine LOps.nil ?_ | refine andThen_normal ?_ | refine andThen_exit ?_ | refine andThen_ret ?_ | refine inBlock_normal ?_ | refine inBlock_ret ?_ | refine inBlock_here ?_ | refine inBlock_out rfl ?_ | refine LWp.seq ?_ | refine LWp.region ?_ | refine LWp.block ?_ | refine LWp.exit ?_ | refine LWp.ret ?_ | refine LWp.skip ?_ | refine LWp.condF rfl ?_)
  refine LOps.valG (LVal.move (.inr rfl)) rfl rfl rfl ?_
  repeat (first | refine LOps.nil ?_ | refine andThen_normal ?_ | refine andThen_exit ?_ | refine andThen_ret ?_ | refine inBlock_normal ?_ | refine inBlock_ret ?_ | refine inBlock_here ?_ | refine inBlock_out rfl ?_ | refine LWp.seq ?_ | refine LWp.region ?_ | refine LWp.block ?_ | refine LWp.exit ?_ | refine LWp.ret ?_ | refine LWp.skip ?_)
  refine LWp.loop (fun q T S' => ∃ (T' : Nat → TV) (j : Nat), j ≤ 15 ∧ q = 15 - j ∧ S' = Ss ∧ T = over T' [(4, ptr b4), (5, ptr b5), (6, ptr b6), (7, ptr b7), (9, ptr b9), (12, ptr b12), (15, ptr b15), (16, ptr b16), (17, ptr b17), (25, .one (iv (j : Nat)))]) 15 ?_ ?_
  · exact ⟨_, 0, by omega, rfl, rfl, holds.over ⟨rfl, rfl, rfl, rfl, rfl, rfl, rfl, rfl, rfl, rfl, trivial⟩⟩
  rintro q T S16 ⟨T', j, hj, rfl, rfl, rfl⟩
  repeat (first | refine LOps.nil ?_ | refine andThen_normal ?_ | refine andThen_exit ?_ | refine andThen_ret ?_ | refine inBlock_normal ?_ | refine inBlock_ret ?_ | refine inBlock_here ?_ | refine inBlock_out rfl ?_ | refine LWp.seq ?_ | refine LWp.region ?_ | refine LWp.block ?_ | refine LWp.exit ?_ | refine LWp.ret ?_ | refine LWp.skip ?_)
  refine LOps.valG (LVal.move (.inl rfl)) rfl rfl rfl ?_
  refine LOps.valG (LVal.binOp hD rfl rfl rfl rfl) rfl rfl rfl ?_
  repeat (first | refine LOps.nil ?_ | refine andThen_normal ?_ | refine andThen_exit ?_ | refine andThen_ret ?_ | refine inBlock_normal ?_ | refine inBlock_ret ?_ | refine inBlock_here ?_ | refine inBlock_out rfl ?_ | refine LWp.seq ?_ | refine LWp.region ?_ | refine LWp.block ?_ | refine LWp.exit ?_ | refine LWp.ret ?_ | refine LWp.skip ?_)
  refine LWp.cond rfl (fun h => ?_) (fun h => ?_)
  · have hlt : j < 15 := by
      have h : decide ((j : Int) < 15) = true := h
      rw [decide_eq_true_iff] at h; omega
    clear h
    by_cases q2 : l.slot j = noSlot
    · by_cases q1 : (l.slot j).m = s.m
      · skip
        repeat (first | refine LOps.nil ?_ | refine andThen_normal ?_ | refine andThen_exit ?_ | refine andThen_ret ?_ | refine inBlock_normal ?_ | refine inBlock_ret ?_ | refine inBlock_here ?_ | refine inBlock_out rfl ?_ | refine LWp.seq ?_ | refine LWp.region ?_ | refine LWp.block ?_ | refine LWp.exit ?_ | refine LWp.ret ?_ | refine LWp.skip ?_)
        refine LWp.drawL [0, 1, 2, 3, 4, 5, 6, 7, 8] (by rw [hP]; rfl) rfl ?_
        refine LRl.val (r := .one (iv (j : Nat))) (fun _ hS => LVal.to (LVal.move (.inl rfl)) rfl) rfl rfl rfl ?_
        refine LRl.val (fun _ hS => LVal.fieldAddr hD rfl rfl rfl rfl rfl rfl (by decide)) rfl rfl rfl ?_
        refine LRl.val (fun _ hS => LVal.indexP hD rfl rfl rfl rfl rfl rfl hlt) rfl rfl rfl ?_
        refine LRl.val (fun _ hS => LVal.fieldAddr hD rfl rfl rfl rfl rfl rfl (by decide)) rfl rfl rfl ?_
        refine LRl.val (r := .agg (markL (l.slot j).m)) (fun _ hS => LVal.load hD rfl rfl (hS.box _ _ k4 id) rfl (rdMark l hlt)) rfl rfl rfl ?_
        refine LRl.val (fun _ hS => LVal.fieldAddr hD rfl rfl rfl rfl rfl rfl (by decide)) rfl rfl rfl ?_
        refine LRl.val (r := .agg (markL s.m)) (fun _ hS => LVal.load hD rfl rfl (hS.box _ _ k5 id) rfl (rdSlM s)) rfl rfl rfl ?_
        refine LRl.val (r := .one (bv true)) (fun _ hS => LVal.to (LVal.eqAgg hD rfl rfl rfl rfl rfl ea rfl) (by exact congrArg (fun b => TV.one (bv b)) (mark_eq q1))) rfl rfl rfl ?_
        refine LRl.val (r := .one (bv true)) (fun _ hS => LVal.to (LVal.move (.inr rfl)) rfl) rfl rfl rfl ?_
        refine LRl.nil ?_
        repeat (first | refine LOps.nil ?_ | refine andThen_normal ?_ | refine andThen_exit ?_ | refine andThen_ret ?_ | refine inBlock_normal ?_ | refine inBlock_ret ?_ | refine inBlock_here ?_ | refine inBlock_out rfl ?_ | refine LWp.seq ?_ | refine LWp.region ?_ | refine LWp.block ?_ | refine LWp.exit ?_ | refine LWp.ret ?_ | refine LWp.skip ?_)
        refine LWp.drawL [0, 1, 2, 3, 4, 5, 6, 7, 8, 9, 10, 11, 12, 13, 14, 15, 16, 17, 18, 19, 20, 21, 22, 23, 24, 25, 26, 27, 28, 29, 30, 31] (by rw [hP]; rfl) rfl ?_
        refine LRl.val (r := .one (iv (j : Nat))) (fun _ hS => LVal.to (LVal.move (.inl rfl)) rfl) rfl rfl rfl ?_
        refine LRl.val (fun _ hS => LVal.fieldAddr hD rfl rfl rfl rfl rfl rfl (by decide)) rfl rfl rfl ?_
        refine LRl.val (fun _ hS => LVal.indexP hD rfl rfl rfl rfl rfl rfl hlt) rfl rfl rfl ?_
        refine LRl.val (r := .agg (slotL (l.slot j))) (fun _ hS => LVal.load hD rfl rfl (hS.box _ _ k4 id) rfl (rdSlot l hlt)) rfl rfl rfl ?_
        refine LRl.val (r := .agg (slotL noSlot)) (fun _ hS => LVal.to (LVal.build hD rfl rfl rfl rfl rfl rfl rfl) rfl) rfl rfl rfl ?_
        refine LRl.val (r := .one (bv false)) (fun _ hS => LVal.to (LVal.neqAgg hD rfl rfl rfl rfl rfl eb rfl) (by exact congrArg (fun b => TV.one (bv (!b))) (slot_eq q2))) rfl rfl rfl ?_
        refine LRl.val (r := .one (bv false)) (fun _ hS => LVal.to (LVal.move (.inl rfl)) rfl) rfl rfl rfl ?_
        refine LRl.outA ?_
        refine LRl.outA ?_
        refine LRl.val (r := .one (bv false)) (fun _ hS => LVal.to (LVal.pick rfl rfl) rfl) rfl rfl rfl ?_
        refine LRl.val (r := .one (bv false)) (fun _ hS => LVal.to (LVal.move (.inl rfl)) rfl) rfl rfl rfl ?_
        refine LRl.outA ?_
        refine LRl.outA ?_
        refine LRl.outA ?_
        refine LRl.outA ?_
        refine LRl.outA ?_
        refine LRl.outA ?_
        refine LRl.outA ?_
        refine LRl.outA ?_
        refine LRl.outA ?_
        refine LRl.outA ?_
        refine LRl.outA ?_
        refine LRl.outA ?_
        refine LRl.outA ?_
        refine LRl.outA ?_
        refine LRl.outA ?_
        refine LRl.outA ?_
        refine LRl.outA ?_
        refine LRl.outA ?_
        refine LRl.outA ?_
        refine LRl.outA ?_
        refine LRl.val (r := .one (bv false)) (fun _ hS => LVal.to (LVal.pick rfl rfl) rfl) rfl rfl rfl ?_
        refine LRl.nil ?_
        repeat (first | refine LOps.nil ?_ | refine andThen_normal ?_ | refine andThen_exit ?_ | refine andThen_ret ?_ | refine inBlock_normal ?_ | refine inBlock_ret ?_ | refine inBlock_here ?_ | refine inBlock_out rfl ?_ | refine LWp.seq ?_ | refine LWp.region ?_ | refine LWp.block ?_ | refine LWp.exit ?_ | refine LWp.ret ?_ | refine LWp.skip ?_ | refine LWp.condF rfl ?_)
        refine LOps.valG (LVal.move (.inl rfl)) rfl rfl rfl ?_
        refine LOps.valG (LVal.add64 rfl rfl rfl (by omega)) rfl rfl rfl ?_
        refine LOps.valG (LVal.move (.inr rfl)) rfl rfl rfl ?_
        repeat (first | refine LOps.nil ?_ | refine andThen_normal ?_ | refine andThen_exit ?_ | refine andThen_ret ?_ | refine inBlock_normal ?_ | refine inBlock_ret ?_ | refine inBlock_here ?_ | refine inBlock_out rfl ?_ | refine LWp.seq ?_ | refine LWp.region ?_ | refine LWp.block ?_ | refine LWp.exit ?_ | refine LWp.ret ?_ | refine LWp.skip ?_)
        exact ⟨15 - (j + 1), by omega, _, j + 1, by omega, rfl, rfl, holds.over ⟨rfl, rfl, rfl, rfl, rfl, rfl, rfl, rfl, rfl, rfl, trivial⟩⟩
      · skip
        repeat (first | refine LOps.nil ?_ | refine andThen_normal ?_ | refine andThen_exit ?_ | refine andThen_ret ?_ | refine inBlock_normal ?_ | refine inBlock_ret ?_ | refine inBlock_here ?_ | refine inBlock_out rfl ?_ | refine LWp.seq ?_ | refine LWp.region ?_ | refine LWp.block ?_ | refine LWp.exit ?_ | refine LWp.ret ?_ | refine LWp.skip ?_)
        refine LWp.drawL [0, 1, 2, 3, 4, 5, 6, 7, 8] (by rw [hP]; rfl) rfl ?_
        refine LRl.val (r := .one (iv (j : Nat))) (fun _ hS => LVal.to (LVal.move (.inl rfl)) rfl) rfl rfl rfl ?_
        refine LRl.val (fun _ hS => LVal.fieldAddr hD rfl rfl rfl rfl rfl rfl (by decide)) rfl rfl rfl ?_
        refine LRl.val (fun _ hS => LVal.indexP hD rfl rfl rfl rfl rfl rfl hlt) rfl rfl rfl ?_
        refine LRl.val (fun _ hS => LVal.fieldAddr hD rfl rfl rfl rfl rfl rfl (by decide)) rfl rfl rfl ?_
        refine LRl.val (r := .agg (markL (l.slot j).m)) (fun _ hS => LVal.load hD rfl rfl (hS.box _ _ k4 id) rfl (rdMark l hlt)) rfl rfl rfl ?_
        refine LRl.val (fun _ hS => LVal.fieldAddr hD rfl rfl rfl rfl rfl rfl (by decide)) rfl rfl rfl ?_
        refine LRl.val (r := .agg (markL s.m)) (fun _ hS => LVal.load hD rfl rfl (hS.box _ _ k5 id) rfl (rdSlM s)) rfl rfl rfl ?_
        refine LRl.val (r := .one (bv false)) (fun _ hS => LVal.to (LVal.eqAgg hD rfl rfl rfl rfl rfl ea rfl) (by exact congrArg (fun b => TV.one (bv b)) (mark_ne q1))) rfl rfl rfl ?_
        refine LRl.val (r := .one (bv false)) (fun _ hS => LVal.to (LVal.move (.inr rfl)) rfl) rfl rfl rfl ?_
        refine LRl.nil ?_
        repeat (first | refine LOps.nil ?_ | refine andThen_normal ?_ | refine andThen_exit ?_ | refine andThen_ret ?_ | refine inBlock_normal ?_ | refine inBlock_ret ?_ | refine inBlock_here ?_ | refine inBlock_out rfl ?_ | refine LWp.seq ?_ | refine LWp.region ?_ | refine LWp.block ?_ | refine LWp.exit ?_ | refine LWp.ret ?_ | refine LWp.skip ?_)
        refine LWp.drawL [0, 1, 2, 3, 4, 5, 6, 7, 8, 9, 10, 11, 12, 13, 14, 15, 16, 17, 18, 19, 20, 21, 22, 23, 24, 25, 26, 27, 28, 29, 30, 31] (by rw [hP]; rfl) rfl ?_
        refine LRl.val (r := .one (iv (j : Nat))) (fun _ hS => LVal.to (LVal.move (.inl rfl)) rfl) rfl rfl rfl ?_
        refine LRl.val (fun _ hS => LVal.fieldAddr hD rfl rfl rfl rfl rfl rfl (by decide)) rfl rfl rfl ?_
        refine LRl.val (fun _ hS => LVal.indexP hD rfl rfl rfl rfl rfl rfl hlt) rfl rfl rfl ?_
        refine LRl.val (r := .agg (slotL (l.slot j))) (fun _ hS => LVal.load hD rfl rfl (hS.box _ _ k4 id) rfl (rdSlot l hlt)) rfl rfl rfl ?_
        refine LRl.val (r := .agg (slotL noSlot)) (fun _ hS => LVal.to (LVal.build hD rfl rfl rfl rfl rfl rfl rfl) rfl) rfl rfl rfl ?_
        refine LRl.val (r := .one (bv false)) (fun _ hS => LVal.to (LVal.neqAgg hD rfl rfl rfl rfl rfl eb rfl) (by exact congrArg (fun b => TV.one (bv (!b))) (slot_eq q2))) rfl rfl rfl ?_
        refine LRl.val (r := .one (bv false)) (fun _ hS => LVal.to (LVal.move (.inl rfl)) rfl) rfl rfl rfl ?_
        refine LRl.outA ?_
        refine LRl.outA ?_
        refine LRl.val (r := .one (bv false)) (fun _ hS => LVal.to (LVal.pick rfl rfl) rfl) rfl rfl rfl ?_
        refine LRl.val (r := .one (bv false)) (fun _ hS => LVal.to (LVal.move (.inl rfl)) rfl) rfl rfl rfl ?_
        refine LRl.outA ?_
        refine LRl.outA ?_
        refine LRl.outA ?_
        refine LRl.outA ?_
        refine LRl.outA ?_
        refine LRl.outA ?_
        refine LRl.outA ?_
        refine LRl.outA ?_
        refine LRl.outA ?_
        refine LRl.outA ?_
        refine LRl.outA ?_
        refine LRl.outA ?_
        refine LRl.outA ?_
        refine LRl.outA ?_
        refine LRl.outA ?_
        refine LRl.outA ?_
        refine LRl.outA ?_
        refine LRl.outA ?_
        refine LRl.outA ?_
        refine LRl.outA ?_
        refine LRl.val (r := .one (bv false)) (fun _ hS => LVal.to (LVal.pick rfl rfl) rfl) rfl rfl rfl ?_
        refine LRl.nil ?_
        repeat (first | refine LOps.nil ?_ | refine andThen_normal ?_ | refine andThen_exit ?_ | refine andThen_ret ?_ | refine inBlock_normal ?_ | refine inBlock_ret ?_ | refine inBlock_here ?_ | refine inBlock_out rfl ?_ | refine LWp.seq ?_ | refine LWp.region ?_ | refine LWp.block ?_ | refine LWp.exit ?_ | refine LWp.ret ?_ | refine LWp.skip ?_ | refine LWp.condF rfl ?_)
        refine LOps.valG (LVal.move (.inl rfl)) rfl rfl rfl ?_
        refine LOps.valG (LVal.add64 rfl rfl rfl (by omega)) rfl rfl rfl ?_
        refine LOps.valG (LVal.move (.inr rfl)) rfl rfl rfl ?_
        repeat (first | refine LOps.nil ?_ | refine andThen_normal ?_ | refine andThen_exit ?_ | refine andThen_ret ?_ | refine inBlock_normal ?_ | refine inBlock_ret ?_ | refine inBlock_here ?_ | refine inBlock_out rfl ?_ | refine LWp.seq ?_ | refine LWp.region ?_ | refine LWp.block ?_ | refine LWp.exit ?_ | refine LWp.ret ?_ | refine LWp.skip ?_)
        exact ⟨15 - (j + 1), by omega, _, j + 1, by omega, rfl, rfl, holds.over ⟨rfl, rfl, rfl, rfl, rfl, rfl, rfl, rfl, rfl, rfl, trivial⟩⟩
    · by_cases q1 : (l.slot j).m = s.m
      · skip
        repeat (first | refine LOps.nil ?_ | refine andThen_normal ?_ | refine andThen_exit ?_ | refine andThen_ret ?_ | refine inBlock_normal ?_ | refine inBlock_ret ?_ | refine inBlock_here ?_ | refine inBlock_out rfl ?_ | refine LWp.seq ?_ | refine LWp.region ?_ | refine LWp.block ?_ | refine LWp.exit ?_ | refine LWp.ret ?_ | refine LWp.skip ?_)
        refine LWp.drawL [0, 1, 2, 3, 4, 5, 6, 7, 8] (by rw [hP]; rfl) rfl ?_
        refine LRl.val (r := .one (iv (j : Nat))) (fun _ hS => LVal.to (LVal.move (.inl rfl)) rfl) rfl rfl rfl ?_
        refine LRl.val (fun _ hS => LVal.fieldAddr hD rfl rfl rfl rfl rfl rfl (by decide)) rfl rfl rfl ?_
        refine LRl.val (fun _ hS => LVal.indexP hD rfl rfl rfl rfl rfl rfl hlt) rfl rfl rfl ?_
        refine LRl.val (fun _ hS => LVal.fieldAddr hD rfl rfl rfl rfl rfl rfl (by decide)) rfl rfl rfl ?_
        refine LRl.val (r := .agg (markL (l.slot j).m)) (fun _ hS => LVal.load hD rfl rfl (hS.box _ _ k4 id) rfl (rdMark l hlt)) rfl rfl rfl ?_
        refine LRl.val (fun _ hS => LVal.fieldAddr hD rfl rfl rfl rfl rfl rfl (by decide)) rfl rfl rfl ?_
        refine LRl.val (r := .agg (markL s.m)) (fun _ hS => LVal.load hD rfl rfl (hS.box _ _ k5 id) rfl (rdSlM s)) rfl rfl rfl ?_
        refine LRl.val (r := .one (bv true)) (fun _ hS => LVal.to (LVal.eqAgg hD rfl rfl rfl rfl rfl ea rfl) (by exact congrArg (fun b => TV.one (bv b)) (mark_eq q1))) rfl rfl rfl ?_
        refine LRl.val (r := .one (bv true)) (fun _ hS => LVal.to (LVal.move (.inr rfl)) rfl) rfl rfl rfl ?_
        refine LRl.nil ?_
        repeat (first | refine LOps.nil ?_ | refine andThen_normal ?_ | refine andThen_exit ?_ | refine andThen_ret ?_ | refine inBlock_normal ?_ | refine inBlock_ret ?_ | refine inBlock_here ?_ | refine inBlock_out rfl ?_ | refine LWp.seq ?_ | refine LWp.region ?_ | refine LWp.block ?_ | refine LWp.exit ?_ | refine LWp.ret ?_ | refine LWp.skip ?_)
        refine LWp.drawL [0, 1, 2, 3, 4, 5, 6, 7, 8, 9, 10, 11, 12, 13, 14, 15, 16, 17, 18, 19, 20, 21, 22, 23, 24, 25, 26, 27, 28, 29, 30, 31] (by rw [hP]; rfl) rfl ?_
        refine LRl.val (r := .one (iv (j : Nat))) (fun _ hS => LVal.to (LVal.move (.inl rfl)) rfl) rfl rfl rfl ?_
        refine LRl.val (fun _ hS => LVal.fieldAddr hD rfl rfl rfl rfl rfl rfl (by decide)) rfl rfl rfl ?_
        refine LRl.val (fun _ hS => LVal.indexP hD rfl rfl rfl rfl rfl rfl hlt) rfl rfl rfl ?_
        refine LRl.val (r := .agg (slotL (l.slot j))) (fun _ hS => LVal.load hD rfl rfl (hS.box _ _ k4 id) rfl (rdSlot l hlt)) rfl rfl rfl ?_
        refine LRl.val (r := .agg (slotL noSlot)) (fun _ hS => LVal.to (LVal.build hD rfl rfl rfl rfl rfl rfl rfl) rfl) rfl rfl rfl ?_
        refine LRl.val (r := .one (bv true)) (fun _ hS => LVal.to (LVal.neqAgg hD rfl rfl rfl rfl rfl eb rfl) (by exact congrArg (fun b => TV.one (bv (!b))) (slot_ne q2))) rfl rfl rfl ?_
        refine LRl.val (r := .one (bv true)) (fun _ hS => LVal.to (LVal.move (.inl rfl)) rfl) rfl rfl rfl ?_
        refine LRl.val (r := .one (bv true)) (fun _ hS => LVal.to (LVal.move (.inl rfl)) rfl) rfl rfl rfl ?_
        refine LRl.val (r := .one (bv false)) (fun _ hS => LVal.to (LVal.unOp rfl rfl rfl) rfl) rfl rfl rfl ?_
        refine LRl.val (r := .one (bv false)) (fun _ hS => LVal.to (LVal.pick rfl rfl) rfl) rfl rfl rfl ?_
        refine LRl.val (r := .one (bv false)) (fun _ hS => LVal.to (LVal.move (.inl rfl)) rfl) rfl rfl rfl ?_
        refine LRl.outA ?_
        refine LRl.outA ?_
        refine LRl.outA ?_
        refine LRl.outA ?_
        refine LRl.outA ?_
        refine LRl.outA ?_
        refine LRl.outA ?_
        refine LRl.outA ?_
        refine LRl.outA ?_
        refine LRl.outA ?_
        refine LRl.outA ?_
        refine LRl.outA ?_
        refine LRl.outA ?_
        refine LRl.outA ?_
        refine LRl.outA ?_
        refine LRl.outA ?_
        refine LRl.outA ?_
        refine LRl.outA ?_
        refine LRl.outA ?_
        refine LRl.outA ?_
        refine LRl.val (r := .one (bv false)) (fun _ hS => LVal.to (LVal.pick rfl rfl) rfl) rfl rfl rfl ?_
        refine LRl.nil ?_
        repeat (first | refine LOps.nil ?_ | refine andThen_normal ?_ | refine andThen_exit ?_ | refine andThen_ret ?_ | refine inBlock_normal ?_ | refine inBlock_ret ?_ | refine inBlock_here ?_ | refine inBlock_out rfl ?_ | refine LWp.seq ?_ | refine LWp.region ?_ | refine LWp.block ?_ | refine LWp.exit ?_ | refine LWp.ret ?_ | refine LWp.skip ?_ | refine LWp.condF rfl ?_)
        refine LOps.valG (LVal.move (.inl rfl)) rfl rfl rfl ?_
        refine LOps.valG (LVal.add64 rfl rfl rfl (by omega)) rfl rfl rfl ?_
        refine LOps.valG (LVal.move (.inr rfl)) rfl rfl rfl ?_
        repeat (first | refine LOps.nil ?_ | refine andThen_normal ?_ | refine andThen_exit ?_ | refine andThen_ret ?_ | refine inBlock_normal ?_ | refine inBlock_ret ?_ | refine inBlock_here ?_ | refine inBlock_out rfl ?_ | refine LWp.seq ?_ | refine LWp.region ?_ | refine LWp.block ?_ | refine LWp.exit ?_ | refine LWp.ret ?_ | refine LWp.skip ?_)
        exact ⟨15 - (j + 1), by omega, _, j + 1, by omega, rfl, rfl, holds.over ⟨rfl, rfl, rfl, rfl, rfl, rfl, rfl, rfl, rfl, rfl, trivial⟩⟩
      · skip
        have q3 := K.pa.sl j hlt q2 q1
        have q4 := K.cb.sl j hlt q2 q1
        repeat (first | refine LOps.nil ?_ | refine andThen_normal ?_ | refine andThen_exit ?_ | refine andThen_ret ?_ | refine inBlock_normal ?_ | refine inBlock_ret ?_ | refine inBlock_here ?_ | refine inBlock_out rfl ?_ | refine LWp.seq ?_ | refine LWp.region ?_ | refine LWp.block ?_ | refine LWp.exit ?_ | refine LWp.ret ?_ | refine LWp.skip ?_)
        refine LWp.drawL [0, 1, 2, 3, 4, 5, 6, 7, 8] (by rw [hP]; rfl) rfl ?_
        refine LRl.val (r := .one (iv (j : Nat))) (fun _ hS => LVal.to (LVal.move (.inl rfl)) rfl) rfl rfl rfl ?_
        refine LRl.val (fun _ hS => LVal.fieldAddr hD rfl rfl rfl rfl rfl rfl (by decide)) rfl rfl rfl ?_
        refine LRl.val (fun _ hS => LVal.indexP hD rfl rfl rfl rfl rfl rfl hlt) rfl rfl rfl ?_
        refine LRl.val (fun _ hS => LVal.fieldAddr hD rfl rfl rfl rfl rfl rfl (by decide)) rfl rfl rfl ?_
        refine LRl.val (r := .agg (markL (l.slot j).m)) (fun _ hS => LVal.load hD rfl rfl (hS.box _ _ k4 id) rfl (rdMark l hlt)) rfl rfl rfl ?_
        refine LRl.val (fun _ hS => LVal.fieldAddr hD rfl rfl rfl rfl rfl rfl (by decide)) rfl rfl rfl ?_
        refine LRl.val (r := .agg (markL s.m)) (fun _ hS => LVal.load hD rfl rfl (hS.box _ _ k5 id) rfl (rdSlM s)) rfl rfl rfl ?_
        refine LRl.val (r := .one (bv false)) (fun _ hS => LVal.to (LVal.eqAgg hD rfl rfl rfl rfl rfl ea rfl) (by exact congrArg (fun b => TV.one (bv b)) (mark_ne q1))) rfl rfl rfl ?_
        refine LRl.val (r := .one (bv false)) (fun _ hS => LVal.to (LVal.move (.inr rfl)) rfl) rfl rfl rfl ?_
        refine LRl.nil ?_
        repeat (first | refine LOps.nil ?_ | refine andThen_normal ?_ | refine andThen_exit ?_ | refine andThen_ret ?_ | refine inBlock_normal ?_ | refine inBlock_ret ?_ | refine inBlock_here ?_ | refine inBlock_out rfl ?_ | refine LWp.seq ?_ | refine LWp.region ?_ | refine LWp.block ?_ | refine LWp.exit ?_ | refine LWp.ret ?_ | refine LWp.skip ?_)
        refine LWp.drawL [0, 1, 2, 3, 4, 5, 6, 7, 8, 9, 10, 11, 12, 13, 14, 15, 16, 17, 18, 19, 20, 21, 22, 23, 24, 25, 26, 27, 28, 29, 30, 31] (by rw [hP]; rfl) rfl ?_
        refine LRl.val (r := .one (iv (j : Nat))) (fun _ hS => LVal.to (LVal.move (.inl rfl)) rfl) rfl rfl rfl ?_
        refine LRl.val (fun _ hS => LVal.fieldAddr hD rfl rfl rfl rfl rfl rfl (by decide)) rfl rfl rfl ?_
        refine LRl.val (fun _ hS => LVal.indexP hD rfl rfl rfl rfl rfl rfl hlt) rfl rfl rfl ?_
        refine LRl.val (r := .agg (slotL (l.slot j))) (fun _ hS => LVal.load hD rfl rfl (hS.box _ _ k4 id) rfl (rdSlot l hlt)) rfl rfl rfl ?_
        refine LRl.val (r := .agg (slotL noSlot)) (fun _ hS => LVal.to (LVal.build hD rfl rfl rfl rfl rfl rfl rfl) rfl) rfl rfl rfl ?_
        refine LRl.val (r := .one (bv true)) (fun _ hS => LVal.to (LVal.neqAgg hD rfl rfl rfl rfl rfl eb rfl) (by exact congrArg (fun b => TV.one (bv (!b))) (slot_ne q2))) rfl rfl rfl ?_
        refine LRl.val (r := .one (bv true)) (fun _ hS => LVal.to (LVal.move (.inl rfl)) rfl) rfl rfl rfl ?_
        refine LRl.val (r := .one (bv false)) (fun _ hS => LVal.to (LVal.move (.inl rfl)) rfl) rfl rfl rfl ?_
        refine LRl.val (r := .one (bv true)) (fun _ hS => LVal.to (LVal.unOp rfl rfl rfl) rfl) rfl rfl rfl ?_
        refine LRl.val (r := .one (bv true)) (fun _ hS => LVal.to (LVal.pick rfl rfl) rfl) rfl rfl rfl ?_
        refine LRl.val (r := .one (bv true)) (fun _ hS => LVal.to (LVal.move (.inl rfl)) rfl) rfl rfl rfl ?_
        refine LRl.val (r := .one (iv (j : Nat))) (fun _ hS => LVal.to (LVal.move (.inl rfl)) rfl) rfl rfl rfl ?_
        refine LRl.val (fun _ hS => LVal.fieldAddr hD rfl rfl rfl rfl rfl rfl (by decide)) rfl rfl rfl ?_
        refine LRl.val (fun _ hS => LVal.indexP hD rfl rfl rfl rfl rfl rfl hlt) rfl rfl rfl ?_
        refine LRl.val (r := .agg (slotL (A.slot j))) (fun _ hS => LVal.load hD rfl rfl (hS.box _ _ k9 id) rfl (rdSlot A hlt)) rfl rfl rfl ?_
        refine LRl.val (r := .one (iv (j : Nat))) (fun _ hS => LVal.to (LVal.move (.inl rfl)) rfl) rfl rfl rfl ?_
        refine LRl.val (fun _ hS => LVal.fieldAddr hD rfl rfl rfl rfl rfl rfl (by decide)) rfl rfl rfl ?_
        refine LRl.val (fun _ hS => LVal.indexP hD rfl rfl rfl rfl rfl rfl hlt) rfl rfl rfl ?_
        refine LRl.val (r := .agg (slotL (l.slot j))) (fun _ hS => LVal.load hD rfl rfl (hS.box _ _ k4 id) rfl (rdSlot l hlt)) rfl rfl rfl ?_
        refine LRl.val (r := .one (bv false)) (fun _ hS => LVal.to (LVal.neqAgg hD rfl rfl rfl rfl rfl eb rfl) (by exact congrArg (fun b => TV.one (bv (!b))) (slot_eq q3))) rfl rfl rfl ?_
        refine LRl.val (r := .one (bv false)) (fun _ hS => LVal.to (LVal.move (.inl rfl)) rfl) rfl rfl rfl ?_
        refine LRl.val (r := .one (iv (j : Nat))) (fun _ hS => LVal.to (LVal.move (.inl rfl)) rfl) rfl rfl rfl ?_
        refine LRl.val (fun _ hS => LVal.fieldAddr hD rfl rfl rfl rfl rfl rfl (by decide)) rfl rfl rfl ?_
        refine LRl.val (fun _ hS => LVal.indexP hD rfl rfl rfl rfl rfl rfl hlt) rfl rfl rfl ?_
        refine LRl.val (r := .agg (slotL (B.slot j))) (fun _ hS => LVal.load hD rfl rfl (hS.box _ _ k12 id) rfl (rdSlot B hlt)) rfl rfl rfl ?_
        refine LRl.val (r := .one (iv (j : Nat))) (fun _ hS => LVal.to (LVal.move (.inl rfl)) rfl) rfl rfl rfl ?_
        refine LRl.val (fun _ hS => LVal.fieldAddr hD rfl rfl rfl rfl rfl rfl (by decide)) rfl rfl rfl ?_
        refine LRl.val (fun _ hS => LVal.indexP hD rfl rfl rfl rfl rfl rfl hlt) rfl rfl rfl ?_
        refine LRl.val (r := .agg (slotL (l.slot j))) (fun _ hS => LVal.load hD rfl rfl (hS.box _ _ k4 id) rfl (rdSlot l hlt)) rfl rfl rfl ?_
        refine LRl.val (r := .one (bv false)) (fun _ hS => LVal.to (LVal.neqAgg hD rfl rfl rfl rfl rfl eb rfl) (by exact congrArg (fun b => TV.one (bv (!b))) (slot_eq q4))) rfl rfl rfl ?_
        refine LRl.val (r := .one (bv false)) (fun _ hS => LVal.to (LVal.pick rfl rfl) rfl) rfl rfl rfl ?_
        refine LRl.val (r := .one (bv false)) (fun _ hS => LVal.to (LVal.pick rfl rfl) rfl) rfl rfl rfl ?_
        refine LRl.nil ?_
        repeat (first | refine LOps.nil ?_ | refine andThen_normal ?_ | refine andThen_exit ?_ | refine andThen_ret ?_ | refine inBlock_normal ?_ | refine inBlock_ret ?_ | refine inBlock_here ?_ | refine inBlock_out rfl ?_ | refine LWp.seq ?_ | refine LWp.region ?_ | refine LWp.block ?_ | refine LWp.exit ?_ | refine LWp.ret ?_ | refine LWp.skip ?_ | refine LWp.condF rfl ?_)
        refine LOps.valG (LVal.move (.inl rfl)) rfl rfl rfl ?_
        refine LOps.valG (LVal.add64 rfl rfl rfl (by omega)) rfl rfl rfl ?_
        refine LOps.valG (LVal.move (.inr rfl)) rfl rfl rfl ?_
        repeat (first | refine LOps.nil ?_ | refine andThen_normal ?_ | refine andThen_exit ?_ | refine andThen_ret ?_ | refine inBlock_normal ?_ | refine inBlock_ret ?_ | refine inBlock_here ?_ | refine inBlock_out rfl ?_ | refine LWp.seq ?_ | refine LWp.region ?_ | refine LWp.block ?_ | refine LWp.exit ?_ | refine LWp.ret ?_ | refine LWp.skip ?_)
        exact ⟨15 - (j + 1), by omega, _, j + 1, by omega, rfl, rfl, holds.over ⟨rfl, rfl, rfl, rfl, rfl, rfl, rfl, rfl, rfl, rfl, trivial⟩⟩
  clear h hj
  repeat (first | refine LOps.nil ?_ | refine andThen_normal ?_ | refine andThen_exit ?_ | refine andThen_ret ?_ | refine inBlock_normal ?_ | refine inBlock_ret ?_ | refine inBlock_here ?_ | refine inBlock_out rfl ?_ | refine LWp.seq ?_ | refine LWp.region ?_ | refine LWp.block ?_ | refine LWp.exit ?_ | refine LWp.ret ?_ | refine LWp.skip ?_)
  refine LOps.valG (r := .agg (leafL l)) (LVal.load hD rfl rfl k4 rfl (rdLeaf l)) rfl rfl rfl ?_
  refine LOps.valG (r := .one (iv ((l.p % 16 : Nat) : Int))) (LVal.call rfl rfl (by rw [hP]; exact Try.func15) rfl (by decide) (c10)) rfl rfl rfl ?_
  refine LOps.valG (LVal.binOp hD rfl rfl rfl rfl) rfl rfl rfl ?_
  repeat (first | refine LOps.nil ?_ | refine andThen_normal ?_ | refine andThen_exit ?_ | refine andThen_ret ?_ | refine inBlock_normal ?_ | refine inBlock_ret ?_ | refine inBlock_here ?_ | refine inBlock_out rfl ?_ | refine LWp.seq ?_ | refine LWp.region ?_ | refine LWp.block ?_ | refine LWp.exit ?_ | refine LWp.ret ?_ | refine LWp.skip ?_)
  refine LWp.cond rfl (fun h => ?_) (fun h => ?_)
  · have h2 : l.p % 16 < 2 := by
      have h : decide (((l.p % 16 : Nat) : Int) < 2) = true := h
      rw [decide_eq_true_iff] at h; omega
    have e := K.small h2
    repeat (first | refine LOps.nil ?_ | refine andThen_normal ?_ | refine andThen_exit ?_ | refine andThen_ret ?_ | refine inBlock_normal ?_ | refine inBlock_ret ?_ | refine inBlock_here ?_ | refine inBlock_out rfl ?_ | refine LWp.seq ?_ | refine LWp.region ?_ | refine LWp.block ?_ | refine LWp.exit ?_ | refine LWp.ret ?_ | refine LWp.skip ?_)
    refine LOps.valG (r := .agg (leafL l)) (LVal.to (LVal.load hD rfl rfl k15 rfl (rdLeaf C1)) (by rw [e])) rfl rfl rfl ?_
    refine LOps.valG (r := .agg (leafL l)) (LVal.load hD rfl rfl k4 rfl (rdLeaf l)) rfl rfl rfl ?_
    refine LOps.valG (r := .one (bv true)) (LVal.eqLeaf hP rfl rfl rfl) rfl rfl rfl ?_
    refine LOps.valG (r := .one (bv true)) (LVal.to (LVal.move (.inr rfl)) rfl) rfl rfl rfl ?_
    repeat (first | refine LOps.nil ?_ | refine andThen_normal ?_ | refine andThen_exit ?_ | refine andThen_ret ?_ | refine inBlock_normal ?_ | refine inBlock_ret ?_ | refine inBlock_here ?_ | refine inBlock_out rfl ?_ | refine LWp.seq ?_ | refine LWp.region ?_ | refine LWp.block ?_ | refine LWp.exit ?_ | refine LWp.ret ?_ | refine LWp.skip ?_)
    exact ⟨_, LRes.one rfl, rfl⟩
  have h2 : 2 ≤ l.p % 16 := by
    have h : decide (((l.p % 16 : Nat) : Int) < 2) = false := h
    rw [decide_eq_false_iff_not] at h; omega
  clear h
  obtain ⟨hh, hsep⟩ := K.big h2
  have r1 := right_L hP C2 hh.or
  rw [hh.fr.right] at r1
  have r2 := len_L hP C1 hh.ol.p
  rw [hh.nl] at r2
  have r3 := len_L hP C2 hh.or.p
  rw [hh.nr] at r3
  repeat (first | refine LOps.nil ?_ | refine andThen_normal ?_ | refine andThen_exit ?_ | refine andThen_ret ?_ | refine inBlock_normal ?_ | refine inBlock_ret ?_ | refine inBlock_here ?_ | refine inBlock_out rfl ?_ | refine LWp.seq ?_ | refine LWp.region ?_ | refine LWp.block ?_ | refine LWp.exit ?_ | refine LWp.ret ?_ | refine LWp.skip ?_)
  refine LWp.drawL [0, 1, 2, 3, 4, 5, 6, 7, 8, 9, 10, 11, 12, 13, 14, 15, 16, 17, 18, 19, 20, 21, 22, 23, 24, 25, 26, 27, 28, 29, 30, 31, 32, 33] (by rw [hP]; rfl) rfl ?_
  refine LRl.val (r := .agg (leafL C2)) (fun _ hS => LVal.load hD rfl rfl (hS.box _ _ k16 id) rfl (rdLeaf C2)) rfl rfl rfl ?_
  refine LRl.val (r := .one (bv true)) (fun _ hS => LVal.call rfl rfl (by rw [hP]; exact Try.func12) rfl (by decide) (r1)) rfl rfl rfl ?_
  refine LRl.val (r := .one (bv false)) (fun _ hS => LVal.to (LVal.unOp rfl rfl rfl) rfl) rfl rfl rfl ?_
  refine LRl.val (r := .one (bv false)) (fun _ hS => LVal.to (LVal.move (.inl rfl)) rfl) rfl rfl rfl ?_
  refine LRl.val (r := .agg (leafL C1)) (fun _ hS => LVal.load hD rfl rfl (hS.box _ _ k15 id) rfl (rdLeaf C1)) rfl rfl rfl ?_
  refine LRl.val (r := .one (iv ((l.p % 16 / 2 : Nat) : Int))) (fun _ hS => LVal.call rfl rfl (by rw [hP]; exact Try.func15) rfl (by decide) (r2)) rfl rfl rfl ?_
  refine LRl.val (r := .agg (leafL C2)) (fun _ hS => LVal.load hD rfl rfl (hS.box _ _ k16 id) rfl (rdLeaf C2)) rfl rfl rfl ?_
  refine LRl.val (r := .one (iv ((l.p % 16 - l.p % 16 / 2 : Nat) : Int))) (fun _ hS => LVal.call rfl rfl (by rw [hP]; exact Try.func15) rfl (by decide) (r3)) rfl rfl rfl ?_
  refine LRl.val (r := .one (iv (((l.p % 16 / 2 : Nat) : Int) + ((l.p % 16 - l.p % 16 / 2 : Nat) : Int)))) (fun _ hS => LVal.add64 rfl rfl rfl (by omega)) rfl rfl rfl ?_
  refine LRl.val (r := .agg (leafL l)) (fun _ hS => LVal.load hD rfl rfl (hS.box _ _ k4 id) rfl (rdLeaf l)) rfl rfl rfl ?_
  refine LRl.val (r := .one (iv ((l.p % 16 : Nat) : Int))) (fun _ hS => LVal.call rfl rfl (by rw [hP]; exact Try.func15) rfl (by decide) (c10)) rfl rfl rfl ?_
  refine LRl.val (r := .one (bv false)) (fun _ hS => LVal.to (LVal.binOp hD rfl rfl rfl rfl) (by exact congrArg (fun b => TV.one (bv b)) (bne_eq_false_iff_eq.2 (by omega)))) rfl rfl rfl ?_
  refine LRl.val (r := .one (bv false)) (fun _ hS => LVal.to (LVal.pick rfl rfl) rfl) rfl rfl rfl ?_
  refine LRl.val (r := .one (bv false)) (fun _ hS => LVal.to (LVal.move (.inl rfl)) rfl) rfl rfl rfl ?_
  refine LRl.val (r := .agg (leafL C1)) (fun _ hS => LVal.load hD rfl rfl (hS.box _ _ k15 id) rfl (rdLeaf C1)) rfl rfl rfl ?_
  refine LRl.val (r := .one (iv ((l.p % 16 / 2 : Nat) : Int))) (fun _ hS => LVal.call rfl rfl (by rw [hP]; exact Try.func15) rfl (by decide) (r2)) rfl rfl rfl ?_
  refine LRl.val (r := .agg (leafL l)) (fun _ hS => LVal.load hD rfl rfl (hS.box _ _ k4 id) rfl (rdLeaf l)) rfl rfl rfl ?_
  refine LRl.val (r := .one (iv ((l.p % 16 : Nat) : Int))) (fun _ hS => LVal.call rfl rfl (by rw [hP]; exact Try.func15) rfl (by decide) (c10)) rfl rfl rfl ?_
  refine LRl.val (r := .one (iv (((l.p % 16 : Nat) : Int) / 2))) (fun _ hS => LVal.quo64 rfl rfl rfl (by omega)) rfl rfl rfl ?_
  refine LRl.val (r := .one (bv false)) (fun _ hS => LVal.to (LVal.binOp hD rfl rfl rfl rfl) (by exact congrArg (fun b => TV.one (bv b)) (bne_eq_false_iff_eq.2 (by omega)))) rfl rfl rfl ?_
  refine LRl.val (r := .one (bv false)) (fun _ hS => LVal.to (LVal.pick rfl rfl) rfl) rfl rfl rfl ?_
  refine LRl.val (r := .one (bv false)) (fun _ hS => LVal.to (LVal.move (.inl rfl)) rfl) rfl rfl rfl ?_
  refine LRl.val (fun _ hS => LVal.fieldAddr hD rfl rfl rfl rfl rfl rfl (by decide)) rfl rfl rfl ?_
  refine LRl.val (r := .agg [iv x, u64 y]) (fun _ hS => LVal.to (LVal.load hD rfl rfl (hS.box _ _ k15 id) rfl (rdNext C1)) (by rw [hh.hl.1, hh.hl.2])) rfl rfl rfl ?_
  refine LRl.val (r := .agg [iv x, u64 y]) (fun _ hS => LVal.load hD rfl rfl (hS.box _ _ k7 id) rfl (rdHa2 x y)) rfl rfl rfl ?_
  refine LRl.val (r := .one (bv false)) (fun _ hS => LVal.to (LVal.neqAgg hD rfl rfl rfl rfl rfl ec rfl) (by exact congrArg (fun b => TV.one (bv (!b))) (hand_self _ _))) rfl rfl rfl ?_
  refine LRl.val (r := .one (bv false)) (fun _ hS => LVal.to (LVal.pick rfl rfl) rfl) rfl rfl rfl ?_
  refine LRl.val (r := .one (bv false)) (fun _ hS => LVal.to (LVal.move (.inl rfl)) rfl) rfl rfl rfl ?_
  refine LRl.val (fun _ hS => LVal.fieldAddr hD rfl rfl rfl rfl rfl rfl (by decide)) rfl rfl rfl ?_
  refine LRl.val (r := .agg [iv l.ns, u64 l.ng]) (fun _ hS => LVal.to (LVal.load hD rfl rfl (hS.box _ _ k16 id) rfl (rdNext C2)) (by rw [hh.hr.1, hh.hr.2])) rfl rfl rfl ?_
  refine LRl.val (fun _ hS => LVal.fieldAddr hD rfl rfl rfl rfl rfl rfl (by decide)) rfl rfl rfl ?_
  refine LRl.val (r := .agg [iv l.ns, u64 l.ng]) (fun _ hS => LVal.load hD rfl rfl (hS.box _ _ k4 id) rfl (rdNext l)) rfl rfl rfl ?_
  refine LRl.val (r := .one (bv false)) (fun _ hS => LVal.to (LVal.neqAgg hD rfl rfl rfl rfl rfl ec rfl) (by exact congrArg (fun b => TV.one (bv (!b))) (hand_self _ _))) rfl rfl rfl ?_
  refine LRl.val (r := .one (bv false)) (fun _ hS => LVal.to (LVal.pick rfl rfl) rfl) rfl rfl rfl ?_
  refine LRl.nil ?_
  have c20 := covers_F hP l m
  repeat (first | refine LOps.nil ?_ | refine andThen_normal ?_ | refine andThen_exit ?_ | refine andThen_ret ?_ | refine inBlock_normal ?_ | refine inBlock_ret ?_ | refine inBlock_here ?_ | refine inBlock_out rfl ?_ | refine LWp.seq ?_ | refine LWp.region ?_ | refine LWp.block ?_ | refine LWp.exit ?_ | refine LWp.ret ?_ | refine LWp.skip ?_ | refine LWp.condF rfl ?_)
  refine LOps.valG (r := .agg (leafL l)) (LVal.load hD rfl rfl k4 rfl (rdLeaf l)) rfl rfl rfl ?_
  refine LOps.valG (r := .agg (markL m)) (LVal.load hD rfl rfl k6 rfl (rdMk2 m)) rfl rfl rfl ?_
  refine LOps.valG (r := .one (bv (coversL l m))) (LVal.call rfl rfl (by rw [hP]; exact Try.func14) rfl (by decide) (c20)) rfl rfl rfl ?_
  refine LOps.valG (r := .one (bv (!(coversL l m)))) (LVal.to (LVal.unOp rfl rfl rfl) rfl) rfl rfl rfl ?_
  repeat (first | refine LOps.nil ?_ | refine andThen_normal ?_ | refine andThen_exit ?_ | refine andThen_ret ?_ | refine inBlock_normal ?_ | refine inBlock_ret ?_ | refine inBlock_here ?_ | refine inBlock_out rfl ?_ | refine LWp.seq ?_ | refine LWp.region ?_ | refine LWp.block ?_ | refine LWp.exit ?_ | refine LWp.ret ?_ | refine LWp.skip ?_)
  refine LWp.cond rfl (fun h => ?_) (fun h => ?_)
  · have h : (!coversL l m) = true := h
    rw [Bool.not_eq_true'] at h
    have c21 := covers_F hP C2 m
    rw [hh.cr m, h] at c21
    repeat (first | refine LOps.nil ?_ | refine andThen_normal ?_ | refine andThen_exit ?_ | refine andThen_ret ?_ | refine inBlock_normal ?_ | refine inBlock_ret ?_ | refine inBlock_here ?_ | refine inBlock_out rfl ?_ | refine LWp.seq ?_ | refine LWp.region ?_ | refine LWp.block ?_ | refine LWp.exit ?_ | refine LWp.ret ?_ | refine LWp.skip ?_)
    refine LOps.valG (r := .agg (leafL C2)) (LVal.load hD rfl rfl k16 rfl (rdLeaf C2)) rfl rfl rfl ?_
    refine LOps.valG (r := .agg (markL m)) (LVal.load hD rfl rfl k6 rfl (rdMk2 m)) rfl rfl rfl ?_
    refine LOps.valG (r := .one (bv false)) (LVal.call rfl rfl (by rw [hP]; exact Try.func14) rfl (by decide) (c21)) rfl rfl rfl ?_
    refine LOps.valG (r := .one (bv true)) (LVal.to (LVal.unOp rfl rfl rfl) rfl) rfl rfl rfl ?_
    refine LOps.valG (r := .one (bv true)) (LVal.to (LVal.move (.inr rfl)) rfl) rfl rfl rfl ?_
    repeat (first | refine LOps.nil ?_ | refine andThen_normal ?_ | refine andThen_exit ?_ | refine andThen_ret ?_ | refine inBlock_normal ?_ | refine inBlock_ret ?_ | refine inBlock_here ?_ | refine inBlock_out rfl ?_ | refine LWp.seq ?_ | refine LWp.region ?_ | refine LWp.block ?_ | refine LWp.exit ?_ | refine LWp.ret ?_ | refine LWp.skip ?_)
    exact ⟨_, LRes.one rfl, rfl⟩
  have h : (!coversL l m) = false := h
  rw [Bool.not_eq_false'] at h
  have c21 := covers_F hP C2 m
  rw [hh.cr m, h] at c21
  have c22 := covers_F hP C1 m
  rw [hh.cl m, ← hsep] at c22
  have c23 := less_M hP m sep
  have hhas := halves_has hf hh h2 m
  rw [← hsep] at hhas
  repeat (first | refine LOps.nil ?_ | refine andThen_normal ?_ | refine andThen_exit ?_ | refine andThen_ret ?_ | refine inBlock_normal ?_ | refine inBlock_ret ?_ | refine inBlock_here ?_ | refine inBlock_out rfl ?_ | refine LWp.seq ?_ | refine LWp.region ?_ | refine LWp.block ?_ | refine LWp.exit ?_ | refine LWp.ret ?_ | refine LWp.skip ?_)
  refine LOps.valG (r := .agg (leafL C2)) (LVal.load hD rfl rfl k16 rfl (rdLeaf C2)) rfl rfl rfl ?_
  skip
  refine LOps.do (LDo.alloc hD rfl rfl rfl) rfl rfl rfl ?_
  rintro _ _ ⟨b27, hb27, rfl, rfl⟩
  have n4_27 := fresh_ne hb27 k4
  have m27_4 := n4_27.symm
  have n6_27 := fresh_ne hb27 k6
  have m27_6 := n6_27.symm
  have n15_27 := fresh_ne hb27 k15
  have m27_15 := n15_27.symm
  have n16_27 := fresh_ne hb27 k16
  have m27_16 := n16_27.symm
  have n17_27 := fresh_ne hb27 k17
  have m27_17 := n17_27.symm
  have s27 := hle.none hb27
  refine LOps.gen (fun S' => S.le S' ∧ S'.box b4 = some (leafL l) ∧ S'.box b6 = some (markL m) ∧ S'.box b15 = some (leafL C1) ∧ S'.box b16 = some (leafL C2) ∧ S'.box b17 = some (markL sep) ∧ S'.box b27 = some (leafL noLeaf)) ⟨hle.newBox hb27 _, (box_new_ne _ _ n4_27).trans k4, (box_new_ne _ _ n6_27).trans k6, (box_new_ne _ _ n15_27).trans k15, (box_new_ne _ _ n16_27).trans k16, (box_new_ne _ _ n17_27).trans k17, (box_new _ _ _).trans (congrArg some zeroLeaf)⟩ ?_
  clear hle hb27 k4 k6 k15 k16 k17
  rintro S27 ⟨hle, k4, k6, k15, k16, k17, k27⟩
  refine LOps.storeA (b := b27) (off := 0) (cs := leafL noLeaf) (l := leafL C2) ?_
  refine LOps.gen (fun S' => S.le S' ∧ S'.box b4 = some (leafL l) ∧ S'.box b6 = some (markL m) ∧ S'.box b15 = some (leafL C1) ∧ S'.box b16 = some (leafL C2) ∧ S'.box b17 = some (markL sep) ∧ S'.box b27 = some (leafL C2)) ⟨hle.setBox s27 _, (box_set_ne _ _ n4_27).trans k4, (box_set_ne _ _ n6_27).trans k6, (box_set_ne _ _ n15_27).trans k15, (box_set_ne _ _ n16_27).trans k16, (box_set_ne _ _ n17_27).trans k17, (box_set _ _ _).trans (congrArg some (stLeaf _ _))⟩ ?_
  clear hle k4 k6 k15 k16 k17 k27
  rintro Ss ⟨hle, k4, k6, k15, k16, k17, k27⟩
  obtain ⟨Hf, hHf⟩ : ∃ Hf, Hf = if lessM m sep = true then C1 else C2 := ⟨_, rfl⟩
  rw [← hHf] at hhas
  have oH : Hf.ok := by rw [hHf]; split; exact hh.ol; exact hh.or
  repeat (first | (refine LWp.seq (LWp.cut 33 (fun T' S' => S.le S' ∧ S'.box b4 = some (leafL l) ∧ S'.box b6 = some (markL m) ∧ S'.box b15 = some (leafL C1) ∧ S'.box b16 = some (leafL C2) ∧ S'.box b17 = some (markL sep) ∧ S'.box b27 = some (leafL Hf) ∧ ∃ T'', T' = over T'' [(4, ptr b4), (6, ptr b6), (15, ptr b15), (16, ptr b16), (17, ptr b17), (27, ptr b27)]) rfl ?_ ?_); rotate_left) | refine LOps.nil ?_ | refine andThen_normal ?_ | refine andThen_exit ?_ | refine andThen_ret ?_ | refine inBlock_normal ?_ | refine inBlock_ret ?_ | refine inBlock_here ?_ | refine inBlock_out rfl ?_ | refine LWp.seq ?_ | refine LWp.region ?_ | refine LWp.block ?_ | refine LWp.exit ?_ | refine LWp.ret ?_ | refine LWp.skip ?_)
  rotate_left
  · cases hL : lessM m sep with
    | true =>
      have e : Hf = C1 := by rw [hHf, if_pos hL]
      rw [hL] at c23
      repeat (first | refine LOps.nil ?_ | refine andThen_normal ?_ | refine andThen_exit ?_ | refine andThen_ret ?_ | refine inBlock_normal ?_ | refine inBlock_ret ?_ | refine inBlock_here ?_ | refine inBlock_out rfl ?_ | refine LWp.seq ?_ | refine LWp.region ?_ | refine LWp.block ?_ | refine LWp.exit ?_ | refine LWp.ret ?_ | refine LWp.skip ?_)
      refine LOps.valG (r := .agg (markL m)) (LVal.load hD rfl rfl k6 rfl (rdMk2 m)) rfl rfl rfl ?_
      refine LOps.valG (r := .agg (markL sep)) (LVal.load hD rfl rfl k17 rfl (rdMk2 sep)) rfl rfl rfl ?_
      refine LOps.valG (r := .one (bv true)) (LVal.call rfl rfl (by rw [hP]; exact Try.func18) rfl (by decide) (c23)) rfl rfl rfl ?_
      repeat (first | refine LOps.nil ?_ | refine andThen_normal ?_ | refine andThen_exit ?_ | refine andThen_ret ?_ | refine inBlock_normal ?_ | refine inBlock_ret ?_ | refine inBlock_here ?_ | refine inBlock_out rfl ?_ | refine LWp.seq ?_ | refine LWp.region ?_ | refine LWp.block ?_ | refine LWp.exit ?_ | refine LWp.ret ?_ | refine LWp.skip ?_ | refine LWp.condT rfl ?_)
      refine LOps.valG (r := .agg (leafL C1)) (LVal.load hD rfl rfl k15 rfl (rdLeaf C1)) rfl rfl rfl ?_
      refine LOps.storeA (b := b27) (off := 0) (cs := leafL C2) (l := leafL C1) ?_
      refine LOps.gen (fun S' => S.le S' ∧ S'.box b4 = some (leafL l) ∧ S'.box b6 = some (markL m) ∧ S'.box b15 = some (leafL C1) ∧ S'.box b16 = some (leafL C2) ∧ S'.box b17 = some (markL sep) ∧ S'.box b27 = some (leafL C1)) ⟨hle.setBox s27 _, (box_set_ne _ _ n4_27).trans k4, (box_set_ne _ _ n6_27).trans k6, (box_set_ne _ _ n15_27).trans k15, (box_set_ne _ _ n16_27).trans k16, (box_set_ne _ _ n17_27).trans k17, (box_set _ _ _).trans (congrArg some (stLeaf _ _))⟩ ?_
      clear hle k4 k6 k15 k16 k17 k27
      rintro Ss ⟨hle, k4, k6, k15, k16, k17, k27⟩
      repeat (first | refine LOps.nil ?_ | refine andThen_normal ?_ | refine andThen_exit ?_ | refine andThen_ret ?_ | refine inBlock_normal ?_ | refine inBlock_ret ?_ | refine inBlock_here ?_ | refine inBlock_out rfl ?_ | refine LWp.seq ?_ | refine LWp.region ?_ | refine LWp.block ?_ | refine LWp.exit ?_ | refine LWp.ret ?_ | refine LWp.skip ?_)
      exact ⟨hle, k4, k6, k15, k16, k17, by rw [e]; exact k27, _, holds.over ⟨rfl, rfl, rfl, rfl, rfl, rfl, trivial⟩⟩
    | false =>
      have e : Hf = C2 := by rw [hHf, if_neg (by rw [hL]; decide)]
      rw [hL] at c23
      repeat (first | refine LOps.nil ?_ | refine andThen_normal ?_ | refine andThen_exit ?_ | refine andThen_ret ?_ | refine inBlock_normal ?_ | refine inBlock_ret ?_ | refine inBlock_here ?_ | refine inBlock_out rfl ?_ | refine LWp.seq ?_ | refine LWp.region ?_ | refine LWp.block ?_ | refine LWp.exit ?_ | refine LWp.ret ?_ | refine LWp.skip ?_)
      refine LOps.valG (r := .agg (markL m)) (LVal.load hD rfl rfl k6 rfl (rdMk2 m)) rfl rfl rfl ?_
      refine LOps.valG (r := .agg (markL sep)) (LVal.load hD rfl rfl k17 rfl (rdMk2 sep)) rfl rfl rfl ?_
      refine LOps.valG (r := .one (bv false)) (LVal.call rfl rfl (by rw [hP]; exact Try.func18) rfl (by decide) (c23)) rfl rfl rfl ?_
      repeat (first | refine LOps.nil ?_ | refine andThen_normal ?_ | refine andThen_exit ?_ | refine andThen_ret ?_ | refine inBlock_normal ?_ | refine inBlock_ret ?_ | refine inBlock_here ?_ | refine inBlock_out rfl ?_ | refine LWp.seq ?_ | refine LWp.region ?_ | refine LWp.block ?_ | refine LWp.exit ?_ | refine LWp.ret ?_ | refine LWp.skip ?_ | refine LWp.condF rfl ?_)
      exact ⟨hle, k4, k6, k15, k16, k17, by rw [e]; exact k27, _, holds.over ⟨rfl, rfl, rfl, rfl, rfl, rfl, trivial⟩⟩
  clear hle k4 k5 k6 k7 k9 k12 k15 k16 k17 k23 k27
  rintro _ S33 ⟨hle, k4, k6, k15, k16, k17, k27, T33, rfl⟩
  have c24 := hasLeaf_L hP l hl m
  have c25 := hasLeaf_L hP Hf oH m
  rw [← hhas] at c25
  generalize (hasL l m).1 = hx at *
  generalize (hasL l m).2 = hb at *
  repeat (first | refine LOps.nil ?_ | refine andThen_normal ?_ | refine andThen_exit ?_ | refine andThen_ret ?_ | refine inBlock_normal ?_ | refine inBlock_ret ?_ | refine inBlock_here ?_ | refine inBlock_out rfl ?_ | refine LWp.seq ?_ | refine LWp.region ?_ | refine LWp.block ?_ | refine LWp.exit ?_ | refine LWp.ret ?_ | refine LWp.skip ?_)
  refine LOps.valG (r := .agg (leafL l)) (LVal.load hD rfl rfl k4 rfl (rdLeaf l)) rfl rfl rfl ?_
  refine LOps.valG (r := .agg (markL m)) (LVal.load hD rfl rfl k6 rfl (rdMk2 m)) rfl rfl rfl ?_
  refine LOps.valG (r := .tup [.agg (slotL hx), .one (bv hb)]) (LVal.call rfl rfl (by rw [hP]; exact Try.func45) rfl (by decide) (c24)) rfl rfl rfl ?_
  refine LOps.valG (LVal.move (.inl rfl)) rfl rfl rfl ?_
  refine LOps.valG (r := .agg (slotL hx)) (LVal.to (LVal.extract rfl rfl rfl) rfl) rfl rfl rfl ?_
  refine LOps.valG (r := .one (bv hb)) (LVal.to (LVal.extract rfl rfl rfl) rfl) rfl rfl rfl ?_
  skip
  refine LOps.do (LDo.alloc hD rfl rfl rfl) rfl rfl rfl ?_
  rintro _ _ ⟨b28, hb28, rfl, rfl⟩
  have n4_28 := fresh_ne hb28 k4
  have m28_4 := n4_28.symm
  have n6_28 := fresh_ne hb28 k6
  have m28_6 := n6_28.symm
  have n15_28 := fresh_ne hb28 k15
  have m28_15 := n15_28.symm
  have n16_28 := fresh_ne hb28 k16
  have m28_16 := n16_28.symm
  have n17_28 := fresh_ne hb28 k17
  have m28_17 := n17_28.symm
  have n27_28 := fresh_ne hb28 k27
  have m28_27 := n27_28.symm
  have s28 := hle.none hb28
  refine LOps.gen (fun S' => S.le S' ∧ S'.box b4 = some (leafL l) ∧ S'.box b6 = some (markL m) ∧ S'.box b15 = some (leafL C1) ∧ S'.box b16 = some (leafL C2) ∧ S'.box b17 = some (markL sep) ∧ S'.box b27 = some (leafL Hf) ∧ S'.box b28 = some (slotL noSlot)) ⟨hle.newBox hb28 _, (box_new_ne _ _ n4_28).trans k4, (box_new_ne _ _ n6_28).trans k6, (box_new_ne _ _ n15_28).trans k15, (box_new_ne _ _ n16_28).trans k16, (box_new_ne _ _ n17_28).trans k17, (box_new_ne _ _ n27_28).trans k27, box_new _ _ _⟩ ?_
  clear hle hb28 k4 k6 k15 k16 k17 k27
  rintro S28 ⟨hle, k4, k6, k15, k16, k17, k27, k28⟩
  refine LOps.storeA (b := b28) (off := 0) (cs := slotL noSlot) (l := slotL hx) ?_
  refine LOps.gen (fun S' => S.le S' ∧ S'.box b4 = some (leafL l) ∧ S'.box b6 = some (markL m) ∧ S'.box b15 = some (leafL C1) ∧ S'.box b16 = some (leafL C2) ∧ S'.box b17 = some (markL sep) ∧ S'.box b27 = some (leafL Hf) ∧ S'.box b28 = some (slotL hx)) ⟨hle.setBox s28 _, (box_set_ne _ _ n4_28).trans k4, (box_set_ne _ _ n6_28).trans k6, (box_set_ne _ _ n15_28).trans k15, (box_set_ne _ _ n16_28).trans k16, (box_set_ne _ _ n17_28).trans k17, (box_set_ne _ _ n27_28).trans k27, (box_set _ _ _).trans (congrArg some (rfl))⟩ ?_
  clear hle k4 k6 k15 k16 k17 k27 k28
  rintro Ss ⟨hle, k4, k6, k15, k16, k17, k27, k28⟩
  refine LOps.valG (r := .one (bv hb)) (LVal.to (LVal.move (.inr rfl)) rfl) rfl rfl rfl ?_
  repeat (first | refine LOps.nil ?_ | refine andThen_normal ?_ | refine andThen_exit ?_ | refine andThen_ret ?_ | refine inBlock_normal ?_ | refine inBlock_ret ?_ | refine inBlock_here ?_ | refine inBlock_out rfl ?_ | refine LWp.seq ?_ | refine LWp.region ?_ | refine LWp.block ?_ | refine LWp.exit ?_ | refine LWp.ret ?_ | refine LWp.skip ?_)
  refine LOps.valG (r := .agg (leafL Hf)) (LVal.load hD rfl rfl k27 rfl (rdLeaf Hf)) rfl rfl rfl ?_
  refine LOps.valG (r := .agg (markL m)) (LVal.load hD rfl rfl k6 rfl (rdMk2 m)) rfl rfl rfl ?_
  refine LOps.valG (r := .tup [.agg (slotL hx), .one (bv hb)]) (LVal.call rfl rfl (by rw [hP]; exact Try.func45) rfl (by decide) (c25)) rfl rfl rfl ?_
  refine LOps.valG (LVal.move (.inl rfl)) rfl rfl rfl ?_
  refine LOps.valG (r := .agg (slotL hx)) (LVal.to (LVal.extract rfl rfl rfl) rfl) rfl rfl rfl ?_
  refine LOps.valG (r := .one (bv hb)) (LVal.to (LVal.extract rfl rfl rfl) rfl) rfl rfl rfl ?_
  skip
  refine LOps.do (LDo.alloc hD rfl rfl rfl) rfl rfl rfl ?_
  rintro _ _ ⟨b30, hb30, rfl, rfl⟩
  have n4_30 := fresh_ne hb30 k4
  have m30_4 := n4_30.symm
  have n6_30 := fresh_ne hb30 k6
  have m30_6 := n6_30.symm
  have n15_30 := fresh_ne hb30 k15
  have m30_15 := n15_30.symm
  have n16_30 := fresh_ne hb30 k16
  have m30_16 := n16_30.symm
  have n17_30 := fresh_ne hb30 k17
  have m30_17 := n17_30.symm
  have n27_30 := fresh_ne hb30 k27
  have m30_27 := n27_30.symm
  have n28_30 := fresh_ne hb30 k28
  have m30_28 := n28_30.symm
  have s30 := hle.none hb30
  refine LOps.gen (fun S' => S.le S' ∧ S'.box b4 = some (leafL l) ∧ S'.box b6 = some (markL m) ∧ S'.box b15 = some (leafL C1) ∧ S'.box b16 = some (leafL C2) ∧ S'.box b17 = some (markL sep) ∧ S'.box b27 = some (leafL Hf) ∧ S'.box b28 = some (slotL hx) ∧ S'.box b30 = some (slotL noSlot)) ⟨hle.newBox hb30 _, (box_new_ne _ _ n4_30).trans k4, (box_new_ne _ _ n6_30).trans k6, (box_new_ne _ _ n15_30).trans k15, (box_new_ne _ _ n16_30).trans k16, (box_new_ne _ _ n17_30).trans k17, (box_new_ne _ _ n27_30).trans k27, (box_new_ne _ _ n28_30).trans k28, box_new _ _ _⟩ ?_
  clear hle hb30 k4 k6 k15 k16 k17 k27 k28
  rintro S30 ⟨hle, k4, k6, k15, k16, k17, k27, k28, k30⟩
  refine LOps.storeA (b := b30) (off := 0) (cs := slotL noSlot) (l := slotL hx) ?_
  refine LOps.gen (fun S' => S.le S' ∧ S'.box b4 = some (leafL l) ∧ S'.box b6 = some (markL m) ∧ S'.box b15 = some (leafL C1) ∧ S'.box b16 = some (leafL C2) ∧ S'.box b17 = some (markL sep) ∧ S'.box b27 = some (leafL Hf) ∧ S'.box b28 = some (slotL hx) ∧ S'.box b30 = some (slotL hx)) ⟨hle.setBox s30 _, (box_set_ne _ _ n4_30).trans k4, (box_set_ne _ _ n6_30).trans k6, (box_set_ne _ _ n15_30).trans k15, (box_set_ne _ _ n16_30).trans k16, (box_set_ne _ _ n17_30).trans k17, (box_set_ne _ _ n27_30).trans k27, (box_set_ne _ _ n28_30).trans k28, (box_set _ _ _).trans (congrArg some (rfl))⟩ ?_
  clear hle k4 k6 k15 k16 k17 k27 k28 k30
  rintro Ss ⟨hle, k4, k6, k15, k16, k17, k27, k28, k30⟩
  refine LOps.valG (r := .one (bv hb)) (LVal.to (LVal.move (.inr rfl)) rfl) rfl rfl rfl ?_
  repeat (first | refine LOps.nil ?_ | refine andThen_normal ?_ | refine andThen_exit ?_ | refine andThen_ret ?_ | refine inBlock_normal ?_ | refine inBlock_ret ?_ | refine inBlock_here ?_ | refine inBlock_out rfl ?_ | refine LWp.seq ?_ | refine LWp.region ?_ | refine LWp.block ?_ | refine LWp.exit ?_ | refine LWp.ret ?_ | refine LWp.skip ?_)
  refine LWp.drawL [0, 1, 2, 3, 4, 5, 6, 7, 8, 9, 10, 11, 12, 13, 14, 15, 16, 17, 18, 19, 20, 21, 22] (by rw [hP]; rfl) rfl ?_
  refine LRl.val (r := .agg (leafL C1)) (fun _ hS => LVal.load hD rfl rfl (hS.box _ _ k15 id) rfl (rdLeaf C1)) rfl rfl rfl ?_
  refine LRl.val (r := .agg (markL m)) (fun _ hS => LVal.load hD rfl rfl (hS.box _ _ k6 id) rfl (rdMk2 m)) rfl rfl rfl ?_
  refine LRl.val (r := .one (bv (lessM m sep))) (fun _ hS => LVal.call rfl rfl (by rw [hP]; exact Try.func14) rfl (by decide) (c22)) rfl rfl rfl ?_
  refine LRl.val (r := .agg (markL m)) (fun _ hS => LVal.load hD rfl rfl (hS.box _ _ k6 id) rfl (rdMk2 m)) rfl rfl rfl ?_
  refine LRl.val (r := .agg (markL sep)) (fun _ hS => LVal.load hD rfl rfl (hS.box _ _ k17 id) rfl (rdMk2 sep)) rfl rfl rfl ?_
  refine LRl.val (r := .one (bv (lessM m sep))) (fun _ hS => LVal.call rfl rfl (by rw [hP]; exact Try.func18) rfl (by decide) (c23)) rfl rfl rfl ?_
  refine LRl.val (r := .one (bv true)) (fun _ hS => LVal.to (LVal.binOp hD rfl rfl rfl rfl) (by exact congrArg (fun b => TV.one (bv b)) (bool_self2 _))) rfl rfl rfl ?_
  refine LRl.val (r := .one (bv true)) (fun _ hS => LVal.to (LVal.move (.inl rfl)) rfl) rfl rfl rfl ?_
  refine LRl.val (r := .agg (leafL C2)) (fun _ hS => LVal.load hD rfl rfl (hS.box _ _ k16 id) rfl (rdLeaf C2)) rfl rfl rfl ?_
  refine LRl.val (r := .agg (markL m)) (fun _ hS => LVal.load hD rfl rfl (hS.box _ _ k6 id) rfl (rdMk2 m)) rfl rfl rfl ?_
  refine LRl.val (r := .one (bv true)) (fun _ hS => LVal.call rfl rfl (by rw [hP]; exact Try.func14) rfl (by decide) (c21)) rfl rfl rfl ?_
  refine LRl.val (r := .one (bv true)) (fun _ hS => LVal.to (LVal.pick rfl rfl) rfl) rfl rfl rfl ?_
  refine LRl.val (r := .one (bv true)) (fun _ hS => LVal.to (LVal.move (.inl rfl)) rfl) rfl rfl rfl ?_
  refine LRl.val (r := .agg (slotL hx)) (fun _ hS => LVal.load hD rfl rfl (hS.box _ _ k28 id) rfl (rdSl2 hx)) rfl rfl rfl ?_
  refine LRl.val (r := .agg (slotL hx)) (fun _ hS => LVal.load hD rfl rfl (hS.box _ _ k30 id) rfl (rdSl2 hx)) rfl rfl rfl ?_
  refine LRl.val (r := .one (bv true)) (fun _ hS => LVal.to (LVal.eqAgg hD rfl rfl rfl rfl rfl eb rfl) (by exact congrArg (fun b => TV.one (bv b)) (slot_self _))) rfl rfl rfl ?_
  refine LRl.val (r := .one (bv true)) (fun _ hS => LVal.to (LVal.pick rfl rfl) rfl) rfl rfl rfl ?_
  refine LRl.val (r := .one (bv true)) (fun _ hS => LVal.to (LVal.move (.inl rfl)) rfl) rfl rfl rfl ?_
  refine LRl.val (r := .one (bv hb)) (fun _ hS => LVal.to (LVal.move (.inl rfl)) rfl) rfl rfl rfl ?_
  refine LRl.val (r := .one (bv hb)) (fun _ hS => LVal.to (LVal.move (.inl rfl)) rfl) rfl rfl rfl ?_
  refine LRl.val (r := .one (bv true)) (fun _ hS => LVal.to (LVal.binOp hD rfl rfl rfl rfl) (by exact congrArg (fun b => TV.one (bv b)) (bool_self2 _))) rfl rfl rfl ?_
  refine LRl.val (r := .one (bv true)) (fun _ hS => LVal.to (LVal.pick rfl rfl) rfl) rfl rfl rfl ?_
  refine LRl.val (r := .one (bv true)) (fun _ hS => LVal.to (LVal.move (.inr rfl)) rfl) rfl rfl rfl ?_
  refine LRl.nil ?_
  repeat (first | refine LOps.nil ?_ | refine andThen_normal ?_ | refine andThen_exit ?_ | refine andThen_ret ?_ | refine inBlock_normal ?_ | refine inBlock_ret ?_ | refine inBlock_here ?_ | refine inBlock_out rfl ?_ | refine LWp.seq ?_ | refine LWp.region ?_ | refine LWp.block ?_ | refine LWp.exit ?_ | refine LWp.ret ?_ | refine LWp.skip ?_)
  exact ⟨_, LRes.one rfl, rfl⟩
end Go.Proofs.Ytgkjhlmfgaaddaa.LF

namespace Go.Proofs.Ytgkjhlmfgaaddaa
open Go.RowKit LF
theorem mleafKeeps_walk (W : World) (v0 : Value) (l0 : List LV) (y0 : Typed LF.D 31 l0) (g0 : RepT (G0 Try.prog W) W (allCells W) (argTV ti31 l0) v0) (v1 : Value) (l1 : List LV) (y1 : Typed LF.D 28 l1) (g1 : RepT (G0 Try.prog W) W (allCells W) (argTV ti28 l1) v1) (v2 : Value) (l2 : List LV) (y2 : Typed LF.D 24 l2) (g2 : RepT (G0 Try.prog W) W (allCells W) (argTV ti24 l2) v2) (v3 : Value) (l3 : List LV) (y3 : Typed LF.D 26 l3) (g3 : RepT (G0 Try.prog W) W (allCells W) (argTV ti26 l3) v3) :
    Calls Try.prog 10 #[v0, v1, v2, v3] W fun e W' => e = .returned (.bool true) ∧ Below W.heap.size W W' := by
  obtain ⟨l, rfl, hl⟩ := typed_leaf y0
  obtain ⟨s, rfl, hs⟩ := typed_slot y1
  obtain ⟨m, rfl, hm⟩ := typed_mark y2
  obtain ⟨x, y, rfl⟩ := typed_handle y3
  exact law_calls (fun G S h => keeps_L h l hl s hs m hm x y S) (.cons (vs := [v1, v2, v3]) g0 (.cons (vs := [v2, v3]) g1 (.cons (vs := [v3]) g2 (.cons (vs := []) g3 .nil))))
end Go.Proofs.Ytgkjhlmfgaaddaa
