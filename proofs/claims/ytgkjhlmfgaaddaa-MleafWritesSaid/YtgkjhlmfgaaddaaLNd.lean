/- The walk of the law 'MleafWrites'. (Printed by gen_writes.py.) -/
import Derived.Test.YtgkjhlmfgaaddaaLNb
set_option linter.unusedVariables false
set_option linter.unusedSimpArgs false
namespace Go.Proofs.Ytgkjhlmfgaaddaa.LF
open Go.RowKit
set_option linter.unusedVariables false

theorem rdSl (s : SlotV) {i : TI} (ha : i.isAgg = true := by rfl) (hs : i.size = 7 := by rfl) : readT i ((slotL s).drop 0) = some (.agg (slotL s)) := readT_agg ha (by rw [hs]; exact Nat.le_refl _) (by rw [hs]; rfl)
theorem rdMk (m : MarkV) {i : TI} (ha : i.isAgg = true := by rfl) (hs : i.size = 2 := by rfl) : readT i ((markL m).drop 0) = some (.agg (markL m)) := readT_agg ha (by rw [hs]; exact Nat.le_refl _) (by rw [hs]; rfl)
theorem bool_self (b : Bool) : (b == b) = true := by simp
theorem stZr (s : SlotV) : splice (ti42.zero.cells.toList.map constLV) 0 (slotL s) = slotL s := by kernel_rfl

set_option maxHeartbeats 64000000 in
set_option maxRecDepth 40000 in
theorem writes_L {G : Ctx} (hP : G.P = Try.prog) (l : LeafV) (hl : l.ok) (s : SlotV) (hs : s.m.ok) (m : MarkV) (hm : m.ok) (x y : Int) (S : LS) : LCalls G 9 [.agg (leafL l), .agg (slotL s), .agg (markL m), .agg [iv x, u64 y]] (fun r _ => r = .one (bv true)) S := by
  have hD : TabOK G.P D := by rw [hP]; exact hD0
  have ea : EqTy G.P D 40 := by rw [hP]; exact eqRMark
  have eb : EqTy G.P D 42 := by rw [hP]; exact eqRSlot
  have c0 := awake_F hP
  have c1 := leaf_F hP l
  have c2 := putLeaf_L hP l hl s hs
  have c3 := one_S hP s
  have c4 := refPut_L hP l hl s hs
  have c5 := delLeaf_L hP l hl m
  have c6 := mark_F hP m
  have c7 := refDel_L hP l hl m hm
  have c8 := split_L hP l hl x y
  have c9 := refSplit_L hP l hl x y
  have d1 := leaf_F hP (putL l s).1
  have d2 := one_S hP (putL l s).2.1
  have d3 := leaf_F hP (delL l m).1
  have d4 := one_S hP (delL l m).2.1
  have d5 := leaf_F hP (splitL l x y).1
  have d6 := leaf_F hP (splitL l x y).2.1
  have d7 := mark_F hP (splitL l x y).2.2
  have d8 := new_L hP
  have d9 := leaf_F hP newL
  have d0 := refNew_L hP
  generalize (putL l s).1 = A1 at *
  generalize (putL l s).2.1 = A2 at *
  generalize (putL l s).2.2 = A3 at *
  generalize (delL l m).1 = B1 at *
  generalize (delL l m).2.1 = B2 at *
  generalize (delL l m).2.2 = B3 at *
  generalize (splitL l x y).1 = C1 at *
  generalize (splitL l x y).2.1 = C2 at *
  generalize (splitL l x y).2.2 = C3 at *
  refine LCalls.enter (fn := Try.f9) (by rw [hP]; exact Try.func9) rfl rfl ?_
  repeat (first | refine LOps.nil ?_ | refine andThen_normal ?_ | refine andThen_exit ?_ | refine andThen_ret ?_ | refine inBlock_normal ?_ | refine inBlock_ret ?_ | refine inBlock_here ?_ | refine inBlock_out rfl ?_ | refine LWp.seq ?_ | refine LWp.region ?_ | refine LWp.block ?_ | refine LWp.exit ?_ | refine LWp.ret ?_ | refine LWp.skip ?_ | refine LOps.valA ?_ | refine LOps.outA ?_ | refine LOps.whenA ?_ | refine LOps.pickA ?_ | refine LOps.storeA ?_)
  have hle := LS.le.refl S
  refine LOps.do (LDo.box rfl rfl) rfl rfl rfl ?_
  rintro _ _ ⟨b4, hb4, rfl, rfl⟩
  have s4 := hle.none hb4
  refine LOps.gen (fun S' => S.le S' ∧ S'.box b4 = some (leafL l)) ⟨hle.newBox hb4 _, box_new _ _ _⟩ ?_
  clear hle hb4 
  rintro S4 ⟨hle, k4⟩
  skip
  refine LOps.do (LDo.box rfl rfl) rfl rfl rfl ?_
  rintro _ _ ⟨b5, hb5, rfl, rfl⟩
  have n4_5 := fresh_ne hb5 k4
  have m5_4 := n4_5.symm
  have s5 := hle.none hb5
  refine LOps.gen (fun S' => S.le S' ∧ S'.box b4 = some (leafL l) ∧ S'.box b5 = some (slotL s)) ⟨hle.newBox hb5 _, (box_new_ne _ _ n4_5).trans k4, box_new _ _ _⟩ ?_
  clear hle hb5 k4
  rintro S5 ⟨hle, k4, k5⟩
  skip
  refine LOps.do (LDo.box rfl rfl) rfl rfl rfl ?_
  rintro _ _ ⟨b6, hb6, rfl, rfl⟩
  have n4_6 := fresh_ne hb6 k4
  have m6_4 := n4_6.symm
  have n5_6 := fresh_ne hb6 k5
  have m6_5 := n5_6.symm
  have s6 := hle.none hb6
  refine LOps.gen (fun S' => S.le S' ∧ S'.box b4 = some (leafL l) ∧ S'.box b5 = some (slotL s) ∧ S'.box b6 = some (markL m)) ⟨hle.newBox hb6 _, (box_new_ne _ _ n4_6).trans k4, (box_new_ne _ _ n5_6).trans k5, box_new _ _ _⟩ ?_
  clear hle hb6 k4 k5
  rintro S6 ⟨hle, k4, k5, k6⟩
  skip
  refine LOps.do (LDo.box rfl rfl) rfl rfl rfl ?_
  rintro _ _ ⟨b7, hb7, rfl, rfl⟩
  have n4_7 := fresh_ne hb7 k4
  have m7_4 := n4_7.symm
  have n5_7 := fresh_ne hb7 k5
  have m7_5 := n5_7.symm
  have n6_7 := fresh_ne hb7 k6
  have m7_6 := n6_7.symm
  have s7 := hle.none hb7
  refine LOps.gen (fun S' => S.le S' ∧ S'.box b4 = some (leafL l) ∧ S'.box b5 = some (slotL s) ∧ S'.box b6 = some (markL m) ∧ S'.box b7 = some ([iv x, u64 y])) ⟨hle.newBox hb7 _, (box_new_ne _ _ n4_7).trans k4, (box_new_ne _ _ n5_7).trans k5, (box_new_ne _ _ n6_7).trans k6, box_new _ _ _⟩ ?_
  clear hle hb7 k4 k5 k6
  rintro S7 ⟨hle, k4, k5, k6, k7⟩
  repeat (first | refine LOps.valH (LVal.load hD rfl rfl k4 rfl (rdLeaf l)) ?_ | refine LOps.nil ?_ | refine andThen_normal ?_ | refine andThen_exit ?_ | refine andThen_ret ?_ | refine inBlock_normal ?_ | refine inBlock_ret ?_ | refine inBlock_here ?_ | refine inBlock_out rfl ?_ | refine LWp.seq ?_ | refine LWp.region ?_ | refine LWp.block ?_ | refine LWp.exit ?_ | refine LWp.ret ?_ | refine LWp.skip ?_ | refine LOps.val (LVal.call rfl rfl (by rw [hP]; exact Try.func19) rfl (by decide) (c1)) rfl rfl rfl ?_ | refine LOps.whenC (LVal.call rfl rfl (by rw [hP]; exact Try.func19) rfl (by decide) (c1)) ?_ | refine LOps.valA ?_ | refine LOps.outA ?_ | refine LOps.whenA ?_ | refine LOps.pickA ?_)
  skip
  refine LOps.do (LDo.alloc hD rfl rfl rfl) rfl rfl rfl ?_
  rintro _ _ ⟨b9, hb9, rfl, rfl⟩
  have n4_9 := fresh_ne hb9 k4
  have m9_4 := n4_9.symm
  have n5_9 := fresh_ne hb9 k5
  have m9_5 := n5_9.symm
  have n6_9 := fresh_ne hb9 k6
  have m9_6 := n6_9.symm
  have n7_9 := fresh_ne hb9 k7
  have m9_7 := n7_9.symm
  have s9 := hle.none hb9
  refine LOps.gen (fun S' => S.le S' ∧ S'.box b4 = some (leafL l) ∧ S'.box b5 = some (slotL s) ∧ S'.box b6 = some (markL m) ∧ S'.box b7 = some ([iv x, u64 y]) ∧ S'.box b9 = some (leafL noLeaf)) ⟨hle.newBox hb9 _, (box_new_ne _ _ n4_9).trans k4, (box_new_ne _ _ n5_9).trans k5, (box_new_ne _ _ n6_9).trans k6, (box_new_ne _ _ n7_9).trans k7, (box_new _ _ _).trans (congrArg some zeroLeaf')⟩ ?_
  clear hle hb9 k4 k5 k6 k7
  rintro S9 ⟨hle, k4, k5, k6, k7, k9⟩
  refine LOps.storeA (b := b9) (off := 0) (cs := leafL noLeaf) (l := leafL l) ?_
  refine LOps.gen (fun S' => S.le S' ∧ S'.box b4 = some (leafL l) ∧ S'.box b5 = some (slotL s) ∧ S'.box b6 = some (markL m) ∧ S'.box b7 = some ([iv x, u64 y]) ∧ S'.box b9 = some (leafL l)) ⟨hle.setBox s9 _, (box_set_ne _ _ n4_9).trans k4, (box_set_ne _ _ n5_9).trans k5, (box_set_ne _ _ n6_9).trans k6, (box_set_ne _ _ n7_9).trans k7, (box_set _ _ _).trans (congrArg some (stLeaf _ _))⟩ ?_
  clear hle k4 k5 k6 k7 k9
  rintro Ss ⟨hle, k4, k5, k6, k7, k9⟩
  repeat (first | refine LOps.valH (LVal.load hD rfl rfl k4 rfl (rdLeaf l)) ?_ | refine LOps.nil ?_ | refine andThen_normal ?_ | refine andThen_exit ?_ | refine andThen_ret ?_ | refine inBlock_normal ?_ | refine inBlock_ret ?_ | refine inBlock_here ?_ | refine inBlock_out rfl ?_ | refine LWp.seq ?_ | refine LWp.region ?_ | refine LWp.block ?_ | refine LWp.exit ?_ | refine LWp.ret ?_ | refine LWp.skip ?_ | refine LOps.val (LVal.call rfl rfl (by rw [hP]; exact Try.func16) rfl (by decide) (c2)) rfl rfl rfl ?_ | refine LOps.whenC (LVal.call rfl rfl (by rw [hP]; exact Try.func16) rfl (by decide) (c2)) ?_ | refine LOps.valA ?_ | refine LOps.outA ?_ | refine LOps.whenA ?_ | refine LOps.pickA ?_)
  skip
  refine LOps.do (LDo.alloc hD rfl rfl rfl) rfl rfl rfl ?_
  rintro _ _ ⟨b10, hb10, rfl, rfl⟩
  have n4_10 := fresh_ne hb10 k4
  have m10_4 := n4_10.symm
  have n5_10 := fresh_ne hb10 k5
  have m10_5 := n5_10.symm
  have n6_10 := fresh_ne hb10 k6
  have m10_6 := n6_10.symm
  have n7_10 := fresh_ne hb10 k7
  have m10_7 := n7_10.symm
  have n9_10 := fresh_ne hb10 k9
  have m10_9 := n9_10.symm
  have s10 := hle.none hb10
  refine LOps.gen (fun S' => S.le S' ∧ S'.box b4 = some (leafL l) ∧ S'.box b5 = some (slotL s) ∧ S'.box b6 = some (markL m) ∧ S'.box b7 = some ([iv x, u64 y]) ∧ S'.box b9 = some (leafL l) ∧ S'.box b10 = some (leafL noLeaf)) ⟨hle.newBox hb10 _, (box_new_ne _ _ n4_10).trans k4, (box_new_ne _ _ n5_10).trans k5, (box_new_ne _ _ n6_10).trans k6, (box_new_ne _ _ n7_10).trans k7, (box_new_ne _ _ n9_10).trans k9, (box_new _ _ _).trans (congrArg some zeroLeaf)⟩ ?_
  clear hle hb10 k4 k5 k6 k7 k9
  rintro S10 ⟨hle, k4, k5, k6, k7, k9, k10⟩
  skip
  refine LOps.do (LDo.alloc hD rfl rfl rfl) rfl rfl rfl ?_
  rintro _ _ ⟨b11, hb11, rfl, rfl⟩
  have n4_11 := fresh_ne hb11 k4
  have m11_4 := n4_11.symm
  have n5_11 := fresh_ne hb11 k5
  have m11_5 := n5_11.symm
  have n6_11 := fresh_ne hb11 k6
  have m11_6 := n6_11.symm
  have n7_11 := fresh_ne hb11 k7
  have m11_7 := n7_11.symm
  have n9_11 := fresh_ne hb11 k9
  have m11_9 := n9_11.symm
  have n10_11 := fresh_ne hb11 k10
  have m11_10 := n10_11.symm
  have s11 := hle.none hb11
  refine LOps.gen (fun S' => S.le S' ∧ S'.box b4 = some (leafL l) ∧ S'.box b5 = some (slotL s) ∧ S'.box b6 = some (markL m) ∧ S'.box b7 = some ([iv x, u64 y]) ∧ S'.box b9 = some (leafL l) ∧ S'.box b10 = some (leafL noLeaf) ∧ S'.box b11 = some (slotL noSlot)) ⟨hle.newBox hb11 _, (box_new_ne _ _ n4_11).trans k4, (box_new_ne _ _ n5_11).trans k5, (box_new_ne _ _ n6_11).trans k6, (box_new_ne _ _ n7_11).trans k7, (box_new_ne _ _ n9_11).trans k9, (box_new_ne _ _ n10_11).trans k10, box_new _ _ _⟩ ?_
  clear hle hb11 k4 k5 k6 k7 k9 k10
  rintro S11 ⟨hle, k4, k5, k6, k7, k9, k10, k11⟩
  repeat (first | refine LOps.nil ?_ | refine andThen_normal ?_ | refine andThen_exit ?_ | refine andThen_ret ?_ | refine inBlock_normal ?_ | refine inBlock_ret ?_ | refine inBlock_here ?_ | refine inBlock_out rfl ?_ | refine LWp.seq ?_ | refine LWp.region ?_ | refine LWp.block ?_ | refine LWp.exit ?_ | refine LWp.ret ?_ | refine LWp.skip ?_ | refine LOps.valA ?_ | refine LOps.outA ?_ | refine LOps.whenA ?_ | refine LOps.pickA ?_)
  refine LOps.storeA (b := b10) (off := 0) (cs := leafL noLeaf) (l := leafL A1) ?_
  refine LOps.gen (fun S' => S.le S' ∧ S'.box b4 = some (leafL l) ∧ S'.box b5 = some (slotL s) ∧ S'.box b6 = some (markL m) ∧ S'.box b7 = some ([iv x, u64 y]) ∧ S'.box b9 = some (leafL l) ∧ S'.box b10 = some (leafL A1) ∧ S'.box b11 = some (slotL noSlot)) ⟨hle.setBox s10 _, (box_set_ne _ _ n4_10).trans k4, (box_set_ne _ _ n5_10).trans k5, (box_set_ne _ _ n6_10).trans k6, (box_set_ne _ _ n7_10).trans k7, (box_set_ne _ _ n9_10).trans k9, (box_set _ _ _).trans (congrArg some (stLeaf _ _)), (box_set_ne _ _ m11_10).trans k11⟩ ?_
  clear hle k4 k5 k6 k7 k9 k10 k11
  rintro Ss ⟨hle, k4, k5, k6, k7, k9, k10, k11⟩
  refine LOps.storeA (b := b11) (off := 0) (cs := slotL noSlot) (l := slotL A2) ?_
  refine LOps.gen (fun S' => S.le S' ∧ S'.box b4 = some (leafL l) ∧ S'.box b5 = some (slotL s) ∧ S'.box b6 = some (markL m) ∧ S'.box b7 = some ([iv x, u64 y]) ∧ S'.box b9 = some (leafL l) ∧ S'.box b10 = some (leafL A1) ∧ S'.box b11 = some (slotL A2)) ⟨hle.setBox s11 _, (box_set_ne _ _ n4_11).trans k4, (box_set_ne _ _ n5_11).trans k5, (box_set_ne _ _ n6_11).trans k6, (box_set_ne _ _ n7_11).trans k7, (box_set_ne _ _ n9_11).trans k9, (box_set_ne _ _ n10_11).trans k10, (box_set _ _ _).trans (congrArg some (rfl))⟩ ?_
  clear hle k4 k5 k6 k7 k9 k10 k11
  rintro Ss ⟨hle, k4, k5, k6, k7, k9, k10, k11⟩
  repeat (first | refine LOps.nil ?_ | refine andThen_normal ?_ | refine andThen_exit ?_ | refine andThen_ret ?_ | refine inBlock_normal ?_ | refine inBlock_ret ?_ | refine inBlock_here ?_ | refine inBlock_out rfl ?_ | refine LWp.seq ?_ | refine LWp.region ?_ | refine LWp.block ?_ | refine LWp.exit ?_ | refine LWp.ret ?_ | refine LWp.skip ?_ | refine LOps.valA ?_ | refine LOps.outA ?_ | refine LOps.whenA ?_ | refine LOps.pickA ?_ | refine LOps.storeA ?_)
  refine LWp.join (fun T' S' => ∃ (b13 b14 : Nat) (T'' : Nat → TV), S.le S' ∧ S'.box b4 = some (leafL l) ∧ S'.box b5 = some (slotL s) ∧ S'.box b6 = some (markL m) ∧ S'.box b7 = some ([iv x, u64 y]) ∧ S'.box b9 = some (leafL l) ∧ S'.box b10 = some (leafL A1) ∧ S'.box b11 = some (slotL A2) ∧ S'.box b13 = some (leafL A1) ∧ S'.box b14 = some (slotL A2) ∧ T' = over T'' [(4, ptr b4), (5, ptr b5), (6, ptr b6), (7, ptr b7), (9, ptr b9), (10, ptr b10), (11, ptr b11), (12, .one (bv A3)), (13, ptr b13), (14, ptr b14), (15, .one (bv A3))]) ?_ ?_
  · refine LWp.drawF (fun q _ => 5 ≤ q ∧ q ≤ 9) [0, 1, 2, 3, 4, 5, 6, 7, 8, 9, 10, 11, 12] (by rw [hP]; rfl) rfl ?_
    repeat (first | refine LRl.valH (LVal.load hD rfl rfl k9 rfl (rdLeaf l)) ?_ (fun _ hS => LVal.load hD rfl rfl (hS.box _ _ k9 (by first | exact id | (intro hx; rcases hx with hx | hx <;> omega) | (intro hx; have hx2 : _ = _ := hx; omega) | (intro hx; exact absurd hx.1 (by decide)))) rfl (rdLeaf l)) | refine LRl.valH (LVal.load hD rfl rfl k5 rfl (rdSl s)) ?_ (fun _ hS => LVal.load hD rfl rfl (hS.box _ _ k5 (by first | exact id | (intro hx; rcases hx with hx | hx <;> omega) | (intro hx; have hx2 : _ = _ := hx; omega) | (intro hx; exact absurd hx.1 (by decide)))) rfl (rdSl s)) | refine LRl.valC (fun _ => (LVal.call rfl rfl (by rw [hP]; exact Try.func27) rfl (by decide) (c3))) ?_ | refine LRl.valC (fun _ => (LVal.call rfl rfl (by rw [hP]; exact Try.func40) rfl (by decide) (c4))) ?_ | refine LRl.whenC (fun _ => (LVal.call rfl rfl (by rw [hP]; exact Try.func27) rfl (by decide) (c3))) ?_ | refine LRl.whenC (fun _ => (LVal.call rfl rfl (by rw [hP]; exact Try.func40) rfl (by decide) (c4))) ?_ | refine LRl.nil ?_ | refine LRl.valA ?_ | refine LRl.outA ?_ | refine LRl.whenA ?_ | refine LRl.pickA ?_)
    refine LRl.alt [0, 1, 2, 3, 4, 5, 6, 7, 9, 8, 10, 11, 12] rfl (LDo.alloc hD rfl rfl rfl) (LDo.alloc hD rfl rfl rfl) rfl rfl rfl rfl rfl rfl (by rintro _ _ ⟨b, hb, _, rfl⟩; exact fun _ _ => .newBox hb _) (by rintro _ _ ⟨b, hb, _, rfl⟩; exact fun _ _ => .newBox hb _) ?_ ?_
    · rintro _ _ ⟨b13, hb13, rfl, rfl⟩
      have n4_13 := fresh_ne hb13 k4
      have n5_13 := fresh_ne hb13 k5
      have n6_13 := fresh_ne hb13 k6
      have n7_13 := fresh_ne hb13 k7
      have n9_13 := fresh_ne hb13 k9
      have n10_13 := fresh_ne hb13 k10
      have n11_13 := fresh_ne hb13 k11
      have s13 := hle.none hb13
      have q4 := (box_new_ne Ss (lzero ti45) n4_13).trans k4
      have q5 := (box_new_ne Ss (lzero ti45) n5_13).trans k5
      have q6 := (box_new_ne Ss (lzero ti45) n6_13).trans k6
      have q7 := (box_new_ne Ss (lzero ti45) n7_13).trans k7
      have q9 := (box_new_ne Ss (lzero ti45) n9_13).trans k9
      have q10 := (box_new_ne Ss (lzero ti45) n10_13).trans k10
      have q11 := (box_new_ne Ss (lzero ti45) n11_13).trans k11
      have hl2 := hle.newBox hb13 (lzero ti45)
      refine LRl.actA (LDo.alloc hD rfl rfl rfl).toAct rfl rfl rfl rfl (by rintro _ _ ⟨b, hb, rfl, rfl⟩ q _; exact .inl (.newBox hb _)) ?_
      rintro _ _ ⟨b14, hb14, rfl, rfl⟩
      have n13_14 : b13 ≠ b14 := fresh_ne hb14 (box_new Ss b13 (lzero ti45))
      have s14 := hl2.none hb14
      have n4_14 := fresh_ne hb14 q4
      have n5_14 := fresh_ne hb14 q5
      have n6_14 := fresh_ne hb14 q6
      have n7_14 := fresh_ne hb14 q7
      have n9_14 := fresh_ne hb14 q9
      have n10_14 := fresh_ne hb14 q10
      have n11_14 := fresh_ne hb14 q11
      have p4 := (box_new_ne (Ss.newBox b13 (lzero ti45)) (lzero ti42) n4_14).trans q4
      have p5 := (box_new_ne (Ss.newBox b13 (lzero ti45)) (lzero ti42) n5_14).trans q5
      have p6 := (box_new_ne (Ss.newBox b13 (lzero ti45)) (lzero ti42) n6_14).trans q6
      have p7 := (box_new_ne (Ss.newBox b13 (lzero ti45)) (lzero ti42) n7_14).trans q7
      have p9 := (box_new_ne (Ss.newBox b13 (lzero ti45)) (lzero ti42) n9_14).trans q9
      have p10 := (box_new_ne (Ss.newBox b13 (lzero ti45)) (lzero ti42) n10_14).trans q10
      have p11 := (box_new_ne (Ss.newBox b13 (lzero ti45)) (lzero ti42) n11_14).trans q11
      have p13 := (box_new_ne (Ss.newBox b13 (lzero ti45)) (lzero ti42) n13_14).trans (box_new Ss b13 (lzero ti45))
      have p14 := box_new (Ss.newBox b13 (lzero ti45)) b14 (lzero ti42)
      have hl3 := hl2.newBox hb14 (lzero ti42)
      refine LRl.actA0 (LDo.store hD rfl rfl (p13) rfl rfl rfl rfl).toAct rfl rfl rfl (by
        rintro _ _ ⟨rfl, rfl⟩ q hq
        rcases (by omega : q = 0 ∨ q = 1 ∨ q = 2 ∨ q = 3 ∨ q = 4 ∨ q = 5 ∨ q = 6 ∨ q = 7 ∨ q = 8 ∨ q = 9) with h | h | h | h | h | h | h | h | h | h <;> subst h <;> first | exact .inr rfl | exact .inl (LS.leX.setBox (by omega) _)) ?_
      rintro _ _ ⟨rfl, rfl⟩
      refine LRl.actA0 (LDo.store hD rfl rfl ((box_set_ne _ _ n13_14.symm).trans p14) rfl rfl rfl rfl).toAct rfl rfl rfl (by
        rintro _ _ ⟨rfl, rfl⟩ q hq
        rcases (by omega : q = 0 ∨ q = 1 ∨ q = 2 ∨ q = 3 ∨ q = 4 ∨ q = 5 ∨ q = 6 ∨ q = 7 ∨ q = 8 ∨ q = 9 ∨ q = 10) with h | h | h | h | h | h | h | h | h | h | h <;> subst h <;> first | exact .inr rfl | exact .inl (LS.leX.setBox (by omega) _)) ?_
      rintro _ _ ⟨rfl, rfl⟩
      repeat (first | refine LRl.nil ?_ | refine LRl.valA ?_ | refine LRl.outA ?_ | refine LRl.whenA ?_ | refine LRl.pickA ?_)
      exact ⟨b13, b14, _, (hl3.setBox s13 _).setBox s14 _, (box_set_ne _ _ n4_14).trans ((box_set_ne _ _ n4_13).trans p4), (box_set_ne _ _ n5_14).trans ((box_set_ne _ _ n5_13).trans p5), (box_set_ne _ _ n6_14).trans ((box_set_ne _ _ n6_13).trans p6), (box_set_ne _ _ n7_14).trans ((box_set_ne _ _ n7_13).trans p7), (box_set_ne _ _ n9_14).trans ((box_set_ne _ _ n9_13).trans p9), (box_set_ne _ _ n10_14).trans ((box_set_ne _ _ n10_13).trans p10), (box_set_ne _ _ n11_14).trans ((box_set_ne _ _ n11_13).trans p11), (box_set_ne _ _ (n13_14)).trans ((box_set _ _ _).trans (congrArg some (stZero' _))), (box_set _ _ _).trans (congrArg some (stZr _)), holds.over ⟨rfl, rfl, rfl, rfl, rfl, rfl, rfl, rfl, rfl, rfl, rfl, trivial⟩⟩
    · rintro _ _ ⟨b14, hb14, rfl, rfl⟩
      have n4_14 := fresh_ne hb14 k4
      have n5_14 := fresh_ne hb14 k5
      have n6_14 := fresh_ne hb14 k6
      have n7_14 := fresh_ne hb14 k7
      have n9_14 := fresh_ne hb14 k9
      have n10_14 := fresh_ne hb14 k10
      have n11_14 := fresh_ne hb14 k11
      have s14 := hle.none hb14
      have q4 := (box_new_ne Ss (lzero ti42) n4_14).trans k4
      have q5 := (box_new_ne Ss (lzero ti42) n5_14).trans k5
      have q6 := (box_new_ne Ss (lzero ti42) n6_14).trans k6
      have q7 := (box_new_ne Ss (lzero ti42) n7_14).trans k7
      have q9 := (box_new_ne Ss (lzero ti42) n9_14).trans k9
      have q10 := (box_new_ne Ss (lzero ti42) n10_14).trans k10
      have q11 := (box_new_ne Ss (lzero ti42) n11_14).trans k11
      have hl2 := hle.newBox hb14 (lzero ti42)
      refine LRl.actA (LDo.alloc hD rfl rfl rfl).toAct rfl rfl rfl rfl (by rintro _ _ ⟨b, hb, rfl, rfl⟩ q _; exact .inl (.newBox hb _)) ?_
      rintro _ _ ⟨b13, hb13, rfl, rfl⟩
      have n14_13 : b14 ≠ b13 := fresh_ne hb13 (box_new Ss b14 (lzero ti42))
      have s13 := hl2.none hb13
      have n4_13 := fresh_ne hb13 q4
      have n5_13 := fresh_ne hb13 q5
      have n6_13 := fresh_ne hb13 q6
      have n7_13 := fresh_ne hb13 q7
      have n9_13 := fresh_ne hb13 q9
      have n10_13 := fresh_ne hb13 q10
      have n11_13 := fresh_ne hb13 q11
      have p4 := (box_new_ne (Ss.newBox b14 (lzero ti42)) (lzero ti45) n4_13).trans q4
      have p5 := (box_new_ne (Ss.newBox b14 (lzero ti42)) (lzero ti45) n5_13).trans q5
      have p6 := (box_new_ne (Ss.newBox b14 (lzero ti42)) (lzero ti45) n6_13).trans q6
      have p7 := (box_new_ne (Ss.newBox b14 (lzero ti42)) (lzero ti45) n7_13).trans q7
      have p9 := (box_new_ne (Ss.newBox b14 (lzero ti42)) (lzero ti45) n9_13).trans q9
      have p10 := (box_new_ne (Ss.newBox b14 (lzero ti42)) (lzero ti45) n10_13).trans q10
      have p11 := (box_new_ne (Ss.newBox b14 (lzero ti42)) (lzero ti45) n11_13).trans q11
      have p14 := (box_new_ne (Ss.newBox b14 (lzero ti42)) (lzero ti45) n14_13).trans (box_new Ss b14 (lzero ti42))
      have p13 := box_new (Ss.newBox b14 (lzero ti42)) b13 (lzero ti45)
      have hl3 := hl2.newBox hb13 (lzero ti45)
      refine LRl.actA0 (LDo.store hD rfl rfl (p13) rfl rfl rfl rfl).toAct rfl rfl rfl (by
        rintro _ _ ⟨rfl, rfl⟩ q hq
        rcases (by omega : q = 0 ∨ q = 1 ∨ q = 2 ∨ q = 3 ∨ q = 4 ∨ q = 5 ∨ q = 6 ∨ q = 7 ∨ q = 8 ∨ q = 9) with h | h | h | h | h | h | h | h | h | h <;> subst h <;> first | exact .inr rfl | exact .inl (LS.leX.setBox (by omega) _)) ?_
      rintro _ _ ⟨rfl, rfl⟩
      refine LRl.actA0 (LDo.store hD rfl rfl ((box_set_ne _ _ n14_13).trans p14) rfl rfl rfl rfl).toAct rfl rfl rfl (by
        rintro _ _ ⟨rfl, rfl⟩ q hq
        rcases (by omega : q = 0 ∨ q = 1 ∨ q = 2 ∨ q = 3 ∨ q = 4 ∨ q = 5 ∨ q = 6 ∨ q = 7 ∨ q = 8 ∨ q = 9 ∨ q = 10) with h | h | h | h | h | h | h | h | h | h | h <;> subst h <;> first | exact .inr rfl | exact .inl (LS.leX.setBox (by omega) _)) ?_
      rintro _ _ ⟨rfl, rfl⟩
      repeat (first | refine LRl.nil ?_ | refine LRl.valA ?_ | refine LRl.outA ?_ | refine LRl.whenA ?_ | refine LRl.pickA ?_)
      exact ⟨b13, b14, _, (hl3.setBox s13 _).setBox s14 _, (box_set_ne _ _ n4_14).trans ((box_set_ne _ _ n4_13).trans p4), (box_set_ne _ _ n5_14).trans ((box_set_ne _ _ n5_13).trans p5), (box_set_ne _ _ n6_14).trans ((box_set_ne _ _ n6_13).trans p6), (box_set_ne _ _ n7_14).trans ((box_set_ne _ _ n7_13).trans p7), (box_set_ne _ _ n9_14).trans ((box_set_ne _ _ n9_13).trans p9), (box_set_ne _ _ n10_14).trans ((box_set_ne _ _ n10_13).trans p10), (box_set_ne _ _ n11_14).trans ((box_set_ne _ _ n11_13).trans p11), (box_set_ne _ _ (n14_13.symm)).trans ((box_set _ _ _).trans (congrArg some (stZero' _))), (box_set _ _ _).trans (congrArg some (stZr _)), holds.over ⟨rfl, rfl, rfl, rfl, rfl, rfl, rfl, rfl, rfl, rfl, rfl, trivial⟩⟩
  clear hle k4 k5 k6 k7 k9 k10 k11
  rintro _ Sa ⟨b13, b14, T2, hle, k4, k5, k6, k7, k9, k10, k11, k13, k14, rfl⟩
  repeat (first | refine LOps.valH (LVal.load hD rfl rfl k4 rfl (rdLeaf l)) ?_ | refine LOps.nil ?_ | refine andThen_normal ?_ | refine andThen_exit ?_ | refine andThen_ret ?_ | refine inBlock_normal ?_ | refine inBlock_ret ?_ | refine inBlock_here ?_ | refine inBlock_out rfl ?_ | refine LWp.seq ?_ | refine LWp.region ?_ | refine LWp.block ?_ | refine LWp.exit ?_ | refine LWp.ret ?_ | refine LWp.skip ?_ | refine LOps.val (LVal.call rfl rfl (by rw [hP]; exact Try.func37) rfl (by decide) (c5)) rfl rfl rfl ?_ | refine LOps.whenC (LVal.call rfl rfl (by rw [hP]; exact Try.func37) rfl (by decide) (c5)) ?_ | refine LOps.valA ?_ | refine LOps.outA ?_ | refine LOps.whenA ?_ | refine LOps.pickA ?_)
  skip
  refine LOps.do (LDo.alloc hD rfl rfl rfl) rfl rfl rfl ?_
  rintro _ _ ⟨b16, hb16, rfl, rfl⟩
  have n4_16 := fresh_ne hb16 k4
  have m16_4 := n4_16.symm
  have n5_16 := fresh_ne hb16 k5
  have m16_5 := n5_16.symm
  have n6_16 := fresh_ne hb16 k6
  have m16_6 := n6_16.symm
  have n7_16 := fresh_ne hb16 k7
  have m16_7 := n7_16.symm
  have n9_16 := fresh_ne hb16 k9
  have m16_9 := n9_16.symm
  have n10_16 := fresh_ne hb16 k10
  have m16_10 := n10_16.symm
  have n11_16 := fresh_ne hb16 k11
  have m16_11 := n11_16.symm
  have n13_16 := fresh_ne hb16 k13
  have m16_13 := n13_16.symm
  have n14_16 := fresh_ne hb16 k14
  have m16_14 := n14_16.symm
  have s16 := hle.none hb16
  refine LOps.gen (fun S' => S.le S' ∧ S'.box b4 = some (leafL l) ∧ S'.box b5 = some (slotL s) ∧ S'.box b6 = some (markL m) ∧ S'.box b7 = some ([iv x, u64 y]) ∧ S'.box b9 = some (leafL l) ∧ S'.box b10 = some (leafL A1) ∧ S'.box b11 = some (slotL A2) ∧ S'.box b13 = some (leafL A1) ∧ S'.box b14 = some (slotL A2) ∧ S'.box b16 = some (leafL noLeaf)) ⟨hle.newBox hb16 _, (box_new_ne _ _ n4_16).trans k4, (box_new_ne _ _ n5_16).trans k5, (box_new_ne _ _ n6_16).trans k6, (box_new_ne _ _ n7_16).trans k7, (box_new_ne _ _ n9_16).trans k9, (box_new_ne _ _ n10_16).trans k10, (box_new_ne _ _ n11_16).trans k11, (box_new_ne _ _ n13_16).trans k13, (box_new_ne _ _ n14_16).trans k14, (box_new _ _ _).trans (congrArg some zeroLeaf)⟩ ?_
  clear hle hb16 k4 k5 k6 k7 k9 k10 k11 k13 k14
  rintro S16 ⟨hle, k4, k5, k6, k7, k9, k10, k11, k13, k14, k16⟩
  skip
  refine LOps.do (LDo.alloc hD rfl rfl rfl) rfl rfl rfl ?_
  rintro _ _ ⟨b17, hb17, rfl, rfl⟩
  have n4_17 := fresh_ne hb17 k4
  have m17_4 := n4_17.symm
  have n5_17 := fresh_ne hb17 k5
  have m17_5 := n5_17.symm
  have n6_17 := fresh_ne hb17 k6
  have m17_6 := n6_17.symm
  have n7_17 := fresh_ne hb17 k7
  have m17_7 := n7_17.symm
  have n9_17 := fresh_ne hb17 k9
  have m17_9 := n9_17.symm
  have n10_17 := fresh_ne hb17 k10
  have m17_10 := n10_17.symm
  have n11_17 := fresh_ne hb17 k11
  have m17_11 := n11_17.symm
  have n13_17 := fresh_ne hb17 k13
  have m17_13 := n13_17.symm
  have n14_17 := fresh_ne hb17 k14
  have m17_14 := n14_17.symm
  have n16_17 := fresh_ne hb17 k16
  have m17_16 := n16_17.symm
  have s17 := hle.none hb17
  refine LOps.gen (fun S' => S.le S' ∧ S'.box b4 = some (leafL l) ∧ S'.box b5 = some (slotL s) ∧ S'.box b6 = some (markL m) ∧ S'.box b7 = some ([iv x, u64 y]) ∧ S'.box b9 = some (leafL l) ∧ S'.box b10 = some (leafL A1) ∧ S'.box b11 = some (slotL A2) ∧ S'.box b13 = some (leafL A1) ∧ S'.box b14 = some (slotL A2) ∧ S'.box b16 = some (leafL noLeaf) ∧ S'.box b17 = some (slotL noSlot)) ⟨hle.newBox hb17 _, (box_new_ne _ _ n4_17).trans k4, (box_new_ne _ _ n5_17).trans k5, (box_new_ne _ _ n6_17).trans k6, (box_new_ne _ _ n7_17).trans k7, (box_new_ne _ _ n9_17).trans k9, (box_new_ne _ _ n10_17).trans k10, (box_new_ne _ _ n11_17).trans k11, (box_new_ne _ _ n13_17).trans k13, (box_new_ne _ _ n14_17).trans k14, (box_new_ne _ _ n16_17).trans k16, box_new _ _ _⟩ ?_
  clear hle hb17 k4 k5 k6 k7 k9 k10 k11 k13 k14 k16
  rintro S17 ⟨hle, k4, k5, k6, k7, k9, k10, k11, k13, k14, k16, k17⟩
  repeat (first | refine LOps.nil ?_ | refine andThen_normal ?_ | refine andThen_exit ?_ | refine andThen_ret ?_ | refine inBlock_normal ?_ | refine inBlock_ret ?_ | refine inBlock_here ?_ | refine inBlock_out rfl ?_ | refine LWp.seq ?_ | refine LWp.region ?_ | refine LWp.block ?_ | refine LWp.exit ?_ | refine LWp.ret ?_ | refine LWp.skip ?_ | refine LOps.valA ?_ | refine LOps.outA ?_ | refine LOps.whenA ?_ | refine LOps.pickA ?_)
  refine LOps.storeA (b := b16) (off := 0) (cs := leafL noLeaf) (l := leafL B1) ?_
  refine LOps.gen (fun S' => S.le S' ∧ S'.box b4 = some (leafL l) ∧ S'.box b5 = some (slotL s) ∧ S'.box b6 = some (markL m) ∧ S'.box b7 = some ([iv x, u64 y]) ∧ S'.box b9 = some (leafL l) ∧ S'.box b10 = some (leafL A1) ∧ S'.box b11 = some (slotL A2) ∧ S'.box b13 = some (leafL A1) ∧ S'.box b14 = some (slotL A2) ∧ S'.box b16 = some (leafL B1) ∧ S'.box b17 = some (slotL noSlot)) ⟨hle.setBox s16 _, (box_set_ne _ _ n4_16).trans k4, (box_set_ne _ _ n5_16).trans k5, (box_set_ne _ _ n6_16).trans k6, (box_set_ne _ _ n7_16).trans k7, (box_set_ne _ _ n9_16).trans k9, (box_set_ne _ _ n10_16).trans k10, (box_set_ne _ _ n11_16).trans k11, (box_set_ne _ _ n13_16).trans k13, (box_set_ne _ _ n14_16).trans k14, (box_set _ _ _).trans (congrArg some (stLeaf _ _)), (box_set_ne _ _ m17_16).trans k17⟩ ?_
  clear hle k4 k5 k6 k7 k9 k10 k11 k13 k14 k16 k17
  rintro Ss ⟨hle, k4, k5, k6, k7, k9, k10, k11, k13, k14, k16, k17⟩
  refine LOps.storeA (b := b17) (off := 0) (cs := slotL noSlot) (l := slotL B2) ?_
  refine LOps.gen (fun S' => S.le S' ∧ S'.box b4 = some (leafL l) ∧ S'.box b5 = some (slotL s) ∧ S'.box b6 = some (markL m) ∧ S'.box b7 = some ([iv x, u64 y]) ∧ S'.box b9 = some (leafL l) ∧ S'.box b10 = some (leafL A1) ∧ S'.box b11 = some (slotL A2) ∧ S'.box b13 = some (leafL A1) ∧ S'.box b14 = some (slotL A2) ∧ S'.box b16 = some (leafL B1) ∧ S'.box b17 = some (slotL B2)) ⟨hle.setBox s17 _, (box_set_ne _ _ n4_17).trans k4, (box_set_ne _ _ n5_17).trans k5, (box_set_ne _ _ n6_17).trans k6, (box_set_ne _ _ n7_17).trans k7, (box_set_ne _ _ n9_17).trans k9, (box_set_ne _ _ n10_17).trans k10, (box_set_ne _ _ n11_17).trans k11, (box_set_ne _ _ n13_17).trans k13, (box_set_ne _ _ n14_17).trans k14, (box_set_ne _ _ n16_17).trans k16, (box_set _ _ _).trans (congrArg some (rfl))⟩ ?_
  clear hle k4 k5 k6 k7 k9 k10 k11 k13 k14 k16 k17
  rintro Ss ⟨hle, k4, k5, k6, k7, k9, k10, k11, k13, k14, k16, k17⟩
  repeat (first | refine LOps.nil ?_ | refine andThen_normal ?_ | refine andThen_exit ?_ | refine andThen_ret ?_ | refine inBlock_normal ?_ | refine inBlock_ret ?_ | refine inBlock_here ?_ | refine inBlock_out rfl ?_ | refine LWp.seq ?_ | refine LWp.region ?_ | refine LWp.block ?_ | refine LWp.exit ?_ | refine LWp.ret ?_ | refine LWp.skip ?_ | refine LOps.valA ?_ | refine LOps.outA ?_ | refine LOps.whenA ?_ | refine LOps.pickA ?_ | refine LOps.storeA ?_)
  refine LWp.join (fun T' S' => ∃ (b19 b20 : Nat) (T'' : Nat → TV), S.le S' ∧ S'.box b4 = some (leafL l) ∧ S'.box b5 = some (slotL s) ∧ S'.box b6 = some (markL m) ∧ S'.box b7 = some ([iv x, u64 y]) ∧ S'.box b9 = some (leafL l) ∧ S'.box b10 = some (leafL A1) ∧ S'.box b11 = some (slotL A2) ∧ S'.box b13 = some (leafL A1) ∧ S'.box b14 = some (slotL A2) ∧ S'.box b16 = some (leafL B1) ∧ S'.box b17 = some (slotL B2) ∧ S'.box b19 = some (leafL B1) ∧ S'.box b20 = some (slotL B2) ∧ T' = over T'' [(4, ptr b4), (5, ptr b5), (6, ptr b6), (7, ptr b7), (9, ptr b9), (10, ptr b10), (11, ptr b11), (13, ptr b13), (14, ptr b14), (16, ptr b16), (17, ptr b17), (12, .one (bv A3)), (15, .one (bv A3)), (18, .one (bv B3)), (19, ptr b19), (20, ptr b20), (21, .one (bv B3))]) ?_ ?_
  · refine LWp.drawF (fun q _ => 5 ≤ q ∧ q ≤ 9) [0, 1, 2, 3, 4, 5, 6, 7, 8, 9, 10, 11, 12] (by rw [hP]; rfl) rfl ?_
    repeat (first | refine LRl.valH (LVal.load hD rfl rfl k9 rfl (rdLeaf l)) ?_ (fun _ hS => LVal.load hD rfl rfl (hS.box _ _ k9 (by first | exact id | (intro hx; rcases hx with hx | hx <;> omega) | (intro hx; have hx2 : _ = _ := hx; omega) | (intro hx; exact absurd hx.1 (by decide)))) rfl (rdLeaf l)) | refine LRl.valH (LVal.load hD rfl rfl k6 rfl (rdMk m)) ?_ (fun _ hS => LVal.load hD rfl rfl (hS.box _ _ k6 (by first | exact id | (intro hx; rcases hx with hx | hx <;> omega) | (intro hx; have hx2 : _ = _ := hx; omega) | (intro hx; exact absurd hx.1 (by decide)))) rfl (rdMk m)) | refine LRl.valC (fun _ => (LVal.call rfl rfl (by rw [hP]; exact Try.func22) rfl (by decide) (c6))) ?_ | refine LRl.valC (fun _ => (LVal.call rfl rfl (by rw [hP]; exact Try.func41) rfl (by decide) (c7))) ?_ | refine LRl.whenC (fun _ => (LVal.call rfl rfl (by rw [hP]; exact Try.func22) rfl (by decide) (c6))) ?_ | refine LRl.whenC (fun _ => (LVal.call rfl rfl (by rw [hP]; exact Try.func41) rfl (by decide) (c7))) ?_ | refine LRl.nil ?_ | refine LRl.valA ?_ | refine LRl.outA ?_ | refine LRl.whenA ?_ | refine LRl.pickA ?_)
    refine LRl.alt [0, 1, 2, 3, 4, 5, 6, 7, 9, 8, 10, 11, 12] rfl (LDo.alloc hD rfl rfl rfl) (LDo.alloc hD rfl rfl rfl) rfl rfl rfl rfl rfl rfl (by rintro _ _ ⟨b, hb, _, rfl⟩; exact fun _ _ => .newBox hb _) (by rintro _ _ ⟨b, hb, _, rfl⟩; exact fun _ _ => .newBox hb _) ?_ ?_
    · rintro _ _ ⟨b19, hb19, rfl, rfl⟩
      have n4_19 := fresh_ne hb19 k4
      have n5_19 := fresh_ne hb19 k5
      have n6_19 := fresh_ne hb19 k6
      have n7_19 := fresh_ne hb19 k7
      have n9_19 := fresh_ne hb19 k9
      have n10_19 := fresh_ne hb19 k10
      have n11_19 := fresh_ne hb19 k11
      have n13_19 := fresh_ne hb19 k13
      have n14_19 := fresh_ne hb19 k14
      have n16_19 := fresh_ne hb19 k16
      have n17_19 := fresh_ne hb19 k17
      have s19 := hle.none hb19
      have q4 := (box_new_ne Ss (lzero ti45) n4_19).trans k4
      have q5 := (box_new_ne Ss (lzero ti45) n5_19).trans k5
      have q6 := (box_new_ne Ss (lzero ti45) n6_19).trans k6
      have q7 := (box_new_ne Ss (lzero ti45) n7_19).trans k7
      have q9 := (box_new_ne Ss (lzero ti45) n9_19).trans k9
      have q10 := (box_new_ne Ss (lzero ti45) n10_19).trans k10
      have q11 := (box_new_ne Ss (lzero ti45) n11_19).trans k11
      have q13 := (box_new_ne Ss (lzero ti45) n13_19).trans k13
      have q14 := (box_new_ne Ss (lzero ti45) n14_19).trans k14
      have q16 := (box_new_ne Ss (lzero ti45) n16_19).trans k16
      have q17 := (box_new_ne Ss (lzero ti45) n17_19).trans k17
      have hl2 := hle.newBox hb19 (lzero ti45)
      refine LRl.actA (LDo.alloc hD rfl rfl rfl).toAct rfl rfl rfl rfl (by rintro _ _ ⟨b, hb, rfl, rfl⟩ q _; exact .inl (.newBox hb _)) ?_
      rintro _ _ ⟨b20, hb20, rfl, rfl⟩
      have n19_20 : b19 ≠ b20 := fresh_ne hb20 (box_new Ss b19 (lzero ti45))
      have s20 := hl2.none hb20
      have n4_20 := fresh_ne hb20 q4
      have n5_20 := fresh_ne hb20 q5
      have n6_20 := fresh_ne hb20 q6
      have n7_20 := fresh_ne hb20 q7
      have n9_20 := fresh_ne hb20 q9
      have n10_20 := fresh_ne hb20 q10
      have n11_20 := fresh_ne hb20 q11
      have n13_20 := fresh_ne hb20 q13
      have n14_20 := fresh_ne hb20 q14
      have n16_20 := fresh_ne hb20 q16
      have n17_20 := fresh_ne hb20 q17
      have p4 := (box_new_ne (Ss.newBox b19 (lzero ti45)) (lzero ti42) n4_20).trans q4
      have p5 := (box_new_ne (Ss.newBox b19 (lzero ti45)) (lzero ti42) n5_20).trans q5
      have p6 := (box_new_ne (Ss.newBox b19 (lzero ti45)) (lzero ti42) n6_20).trans q6
      have p7 := (box_new_ne (Ss.newBox b19 (lzero ti45)) (lzero ti42) n7_20).trans q7
      have p9 := (box_new_ne (Ss.newBox b19 (lzero ti45)) (lzero ti42) n9_20).trans q9
      have p10 := (box_new_ne (Ss.newBox b19 (lzero ti45)) (lzero ti42) n10_20).trans q10
      have p11 := (box_new_ne (Ss.newBox b19 (lzero ti45)) (lzero ti42) n11_20).trans q11
      have p13 := (box_new_ne (Ss.newBox b19 (lzero ti45)) (lzero ti42) n13_20).trans q13
      have p14 := (box_new_ne (Ss.newBox b19 (lzero ti45)) (lzero ti42) n14_20).trans q14
      have p16 := (box_new_ne (Ss.newBox b19 (lzero ti45)) (lzero ti42) n16_20).trans q16
      have p17 := (box_new_ne (Ss.newBox b19 (lzero ti45)) (lzero ti42) n17_20).trans q17
      have p19 := (box_new_ne (Ss.newBox b19 (lzero ti45)) (lzero ti42) n19_20).trans (box_new Ss b19 (lzero ti45))
      have p20 := box_new (Ss.newBox b19 (lzero ti45)) b20 (lzero ti42)
      have hl3 := hl2.newBox hb20 (lzero ti42)
      refine LRl.actA0 (LDo.store hD rfl rfl (p19) rfl rfl rfl rfl).toAct rfl rfl rfl (by
        rintro _ _ ⟨rfl, rfl⟩ q hq
        rcases (by omega : q = 0 ∨ q = 1 ∨ q = 2 ∨ q = 3 ∨ q = 4 ∨ q = 5 ∨ q = 6 ∨ q = 7 ∨ q = 8 ∨ q = 9) with h | h | h | h | h | h | h | h | h | h <;> subst h <;> first | exact .inr rfl | exact .inl (LS.leX.setBox (by omega) _)) ?_
      rintro _ _ ⟨rfl, rfl⟩
      refine LRl.actA0 (LDo.store hD rfl rfl ((box_set_ne _ _ n19_20.symm).trans p20) rfl rfl rfl rfl).toAct rfl rfl rfl (by
        rintro _ _ ⟨rfl, rfl⟩ q hq
        rcases (by omega : q = 0 ∨ q = 1 ∨ q = 2 ∨ q = 3 ∨ q = 4 ∨ q = 5 ∨ q = 6 ∨ q = 7 ∨ q = 8 ∨ q = 9 ∨ q = 10) with h | h | h | h | h | h | h | h | h | h | h <;> subst h <;> first | exact .inr rfl | exact .inl (LS.leX.setBox (by omega) _)) ?_
      rintro _ _ ⟨rfl, rfl⟩
      repeat (first | refine LRl.nil ?_ | refine LRl.valA ?_ | refine LRl.outA ?_ | refine LRl.whenA ?_ | refine LRl.pickA ?_)
      exact ⟨b19, b20, _, (hl3.setBox s19 _).setBox s20 _, (box_set_ne _ _ n4_20).trans ((box_set_ne _ _ n4_19).trans p4), (box_set_ne _ _ n5_20).trans ((box_set_ne _ _ n5_19).trans p5), (box_set_ne _ _ n6_20).trans ((box_set_ne _ _ n6_19).trans p6), (box_set_ne _ _ n7_20).trans ((box_set_ne _ _ n7_19).trans p7), (box_set_ne _ _ n9_20).trans ((box_set_ne _ _ n9_19).trans p9), (box_set_ne _ _ n10_20).trans ((box_set_ne _ _ n10_19).trans p10), (box_set_ne _ _ n11_20).trans ((box_set_ne _ _ n11_19).trans p11), (box_set_ne _ _ n13_20).trans ((box_set_ne _ _ n13_19).trans p13), (box_set_ne _ _ n14_20).trans ((box_set_ne _ _ n14_19).trans p14), (box_set_ne _ _ n16_20).trans ((box_set_ne _ _ n16_19).trans p16), (box_set_ne _ _ n17_20).trans ((box_set_ne _ _ n17_19).trans p17), (box_set_ne _ _ (n19_20)).trans ((box_set _ _ _).trans (congrArg some (stZero' _))), (box_set _ _ _).trans (congrArg some (stZr _)), holds.over ⟨rfl, rfl, rfl, rfl, rfl, rfl, rfl, rfl, rfl, rfl, rfl, rfl, rfl, rfl, rfl, rfl, rfl, trivial⟩⟩
    · rintro _ _ ⟨b20, hb20, rfl, rfl⟩
      have n4_20 := fresh_ne hb20 k4
      have n5_20 := fresh_ne hb20 k5
      have n6_20 := fresh_ne hb20 k6
      have n7_20 := fresh_ne hb20 k7
      have n9_20 := fresh_ne hb20 k9
      have n10_20 := fresh_ne hb20 k10
      have n11_20 := fresh_ne hb20 k11
      have n13_20 := fresh_ne hb20 k13
      have n14_20 := fresh_ne hb20 k14
      have n16_20 := fresh_ne hb20 k16
      have n17_20 := fresh_ne hb20 k17
      have s20 := hle.none hb20
      have q4 := (box_new_ne Ss (lzero ti42) n4_20).trans k4
      have q5 := (box_new_ne Ss (lzero ti42) n5_20).trans k5
      have q6 := (box_new_ne Ss (lzero ti42) n6_20).trans k6
      have q7 := (box_new_ne Ss (lzero ti42) n7_20).trans k7
      have q9 := (box_new_ne Ss (lzero ti42) n9_20).trans k9
      have q10 := (box_new_ne Ss (lzero ti42) n10_20).trans k10
      have q11 := (box_new_ne Ss (lzero ti42) n11_20).trans k11
      have q13 := (box_new_ne Ss (lzero ti42) n13_20).trans k13
      have q14 := (box_new_ne Ss (lzero ti42) n14_20).trans k14
      have q16 := (box_new_ne Ss (lzero ti42) n16_20).trans k16
      have q17 := (box_new_ne Ss (lzero ti42) n17_20).trans k17
      have hl2 := hle.newBox hb20 (lzero ti42)
      refine LRl.actA (LDo.alloc hD rfl rfl rfl).toAct rfl rfl rfl rfl (by rintro _ _ ⟨b, hb, rfl, rfl⟩ q _; exact .inl (.newBox hb _)) ?_
      rintro _ _ ⟨b19, hb19, rfl, rfl⟩
      have n20_19 : b20 ≠ b19 := fresh_ne hb19 (box_new Ss b20 (lzero ti42))
      have s19 := hl2.none hb19
      have n4_19 := fresh_ne hb19 q4
      have n5_19 := fresh_ne hb19 q5
      have n6_19 := fresh_ne hb19 q6
      have n7_19 := fresh_ne hb19 q7
      have n9_19 := fresh_ne hb19 q9
      have n10_19 := fresh_ne hb19 q10
      have n11_19 := fresh_ne hb19 q11
      have n13_19 := fresh_ne hb19 q13
      have n14_19 := fresh_ne hb19 q14
      have n16_19 := fresh_ne hb19 q16
      have n17_19 := fresh_ne hb19 q17
      have p4 := (box_new_ne (Ss.newBox b20 (lzero ti42)) (lzero ti45) n4_19).trans q4
      have p5 := (box_new_ne (Ss.newBox b20 (lzero ti42)) (lzero ti45) n5_19).trans q5
      have p6 := (box_new_ne (Ss.newBox b20 (lzero ti42)) (lzero ti45) n6_19).trans q6
      have p7 := (box_new_ne (Ss.newBox b20 (lzero ti42)) (lzero ti45) n7_19).trans q7
      have p9 := (box_new_ne (Ss.newBox b20 (lzero ti42)) (lzero ti45) n9_19).trans q9
      have p10 := (box_new_ne (Ss.newBox b20 (lzero ti42)) (lzero ti45) n10_19).trans q10
      have p11 := (box_new_ne (Ss.newBox b20 (lzero ti42)) (lzero ti45) n11_19).trans q11
      have p13 := (box_new_ne (Ss.newBox b20 (lzero ti42)) (lzero ti45) n13_19).trans q13
      have p14 := (box_new_ne (Ss.newBox b20 (lzero ti42)) (lzero ti45) n14_19).trans q14
      have p16 := (box_new_ne (Ss.newBox b20 (lzero ti42)) (lzero ti45) n16_19).trans q16
      have p17 := (box_new_ne (Ss.newBox b20 (lzero ti42)) (lzero ti45) n17_19).trans q17
      have p20 := (box_new_ne (Ss.newBox b20 (lzero ti42)) (lzero ti45) n20_19).trans (box_new Ss b20 (lzero ti42))
      have p19 := box_new (Ss.newBox b20 (lzero ti42)) b19 (lzero ti45)
      have hl3 := hl2.newBox hb19 (lzero ti45)
      refine LRl.actA0 (LDo.store hD rfl rfl (p19) rfl rfl rfl rfl).toAct rfl rfl rfl (by
        rintro _ _ ⟨rfl, rfl⟩ q hq
        rcases (by omega : q = 0 ∨ q = 1 ∨ q = 2 ∨ q = 3 ∨ q = 4 ∨ q = 5 ∨ q = 6 ∨ q = 7 ∨ q = 8 ∨ q = 9) with h | h | h | h | h | h | h | h | h | h <;> subst h <;> first | exact .inr rfl | exact .inl (LS.leX.setBox (by omega) _)) ?_
      rintro _ _ ⟨rfl, rfl⟩
      refine LRl.actA0 (LDo.store hD rfl rfl ((box_set_ne _ _ n20_19).trans p20) rfl rfl rfl rfl).toAct rfl rfl rfl (by
        rintro _ _ ⟨rfl, rfl⟩ q hq
        rcases (by omega : q = 0 ∨ q = 1 ∨ q = 2 ∨ q = 3 ∨ q = 4 ∨ q = 5 ∨ q = 6 ∨ q = 7 ∨ q = 8 ∨ q = 9 ∨ q = 10) with h | h | h | h | h | h | h | h | h | h | h <;> subst h <;> first | exact .inr rfl | exact .inl (LS.leX.setBox (by omega) _)) ?_
      rintro _ _ ⟨rfl, rfl⟩
      repeat (first | refine LRl.nil ?_ | refine LRl.valA ?_ | refine LRl.outA ?_ | refine LRl.whenA ?_ | refine LRl.pickA ?_)
      exact ⟨b19, b20, _, (hl3.setBox s19 _).setBox s20 _, (box_set_ne _ _ n4_20).trans ((box_set_ne _ _ n4_19).trans p4), (box_set_ne _ _ n5_20).trans ((box_set_ne _ _ n5_19).trans p5), (box_set_ne _ _ n6_20).trans ((box_set_ne _ _ n6_19).trans p6), (box_set_ne _ _ n7_20).trans ((box_set_ne _ _ n7_19).trans p7), (box_set_ne _ _ n9_20).trans ((box_set_ne _ _ n9_19).trans p9), (box_set_ne _ _ n10_20).trans ((box_set_ne _ _ n10_19).trans p10), (box_set_ne _ _ n11_20).trans ((box_set_ne _ _ n11_19).trans p11), (box_set_ne _ _ n13_20).trans ((box_set_ne _ _ n13_19).trans p13), (box_set_ne _ _ n14_20).trans ((box_set_ne _ _ n14_19).trans p14), (box_set_ne _ _ n16_20).trans ((box_set_ne _ _ n16_19).trans p16), (box_set_ne _ _ n17_20).trans ((box_set_ne _ _ n17_19).trans p17), (box_set_ne _ _ (n20_19.symm)).trans ((box_set _ _ _).trans (congrArg some (stZero' _))), (box_set _ _ _).trans (congrArg some (stZr _)), holds.over ⟨rfl, rfl, rfl, rfl, rfl, rfl, rfl, rfl, rfl, rfl, rfl, rfl, rfl, rfl, rfl, rfl, rfl, trivial⟩⟩
  clear hle k4 k5 k6 k7 k9 k10 k11 k13 k14 k16 k17
  rintro _ Sb ⟨b19, b20, T2, hle, k4, k5, k6, k7, k9, k10, k11, k13, k14, k16, k17, k19, k20, rfl⟩
  repeat (first | refine LOps.valH (LVal.load hD rfl rfl k4 rfl (rdLeaf l)) ?_ | refine LOps.nil ?_ | refine andThen_normal ?_ | refine andThen_exit ?_ | refine andThen_ret ?_ | refine inBlock_normal ?_ | refine inBlock_ret ?_ | refine inBlock_here ?_ | refine inBlock_out rfl ?_ | refine LWp.seq ?_ | refine LWp.region ?_ | refine LWp.block ?_ | refine LWp.exit ?_ | refine LWp.ret ?_ | refine LWp.skip ?_ | refine LOps.val (LVal.call rfl rfl (by rw [hP]; exact Try.func42) rfl (by decide) (c8)) rfl rfl rfl ?_ | refine LOps.whenC (LVal.call rfl rfl (by rw [hP]; exact Try.func42) rfl (by decide) (c8)) ?_ | refine LOps.valA ?_ | refine LOps.outA ?_ | refine LOps.whenA ?_ | refine LOps.pickA ?_)
  skip
  refine LOps.do (LDo.alloc hD rfl rfl rfl) rfl rfl rfl ?_
  rintro _ _ ⟨b22, hb22, rfl, rfl⟩
  have n4_22 := fresh_ne hb22 k4
  have m22_4 := n4_22.symm
  have n5_22 := fresh_ne hb22 k5
  have m22_5 := n5_22.symm
  have n6_22 := fresh_ne hb22 k6
  have m22_6 := n6_22.symm
  have n7_22 := fresh_ne hb22 k7
  have m22_7 := n7_22.symm
  have n9_22 := fresh_ne hb22 k9
  have m22_9 := n9_22.symm
  have n10_22 := fresh_ne hb22 k10
  have m22_10 := n10_22.symm
  have n11_22 := fresh_ne hb22 k11
  have m22_11 := n11_22.symm
  have n13_22 := fresh_ne hb22 k13
  have m22_13 := n13_22.symm
  have n14_22 := fresh_ne hb22 k14
  have m22_14 := n14_22.symm
  have n16_22 := fresh_ne hb22 k16
  have m22_16 := n16_22.symm
  have n17_22 := fresh_ne hb22 k17
  have m22_17 := n17_22.symm
  have n19_22 := fresh_ne hb22 k19
  have m22_19 := n19_22.symm
  have n20_22 := fresh_ne hb22 k20
  have m22_20 := n20_22.symm
  have s22 := hle.none hb22
  refine LOps.gen (fun S' => S.le S' ∧ S'.box b4 = some (leafL l) ∧ S'.box b5 = some (slotL s) ∧ S'.box b6 = some (markL m) ∧ S'.box b7 = some ([iv x, u64 y]) ∧ S'.box b9 = some (leafL l) ∧ S'.box b10 = some (leafL A1) ∧ S'.box b11 = some (slotL A2) ∧ S'.box b13 = some (leafL A1) ∧ S'.box b14 = some (slotL A2) ∧ S'.box b16 = some (leafL B1) ∧ S'.box b17 = some (slotL B2) ∧ S'.box b19 = some (leafL B1) ∧ S'.box b20 = some (slotL B2) ∧ S'.box b22 = some (leafL noLeaf)) ⟨hle.newBox hb22 _, (box_new_ne _ _ n4_22).trans k4, (box_new_ne _ _ n5_22).trans k5, (box_new_ne _ _ n6_22).trans k6, (box_new_ne _ _ n7_22).trans k7, (box_new_ne _ _ n9_22).trans k9, (box_new_ne _ _ n10_22).trans k10, (box_new_ne _ _ n11_22).trans k11, (box_new_ne _ _ n13_22).trans k13, (box_new_ne _ _ n14_22).trans k14, (box_new_ne _ _ n16_22).trans k16, (box_new_ne _ _ n17_22).trans k17, (box_new_ne _ _ n19_22).trans k19, (box_new_ne _ _ n20_22).trans k20, (box_new _ _ _).trans (congrArg some zeroLeaf)⟩ ?_
  clear hle hb22 k4 k5 k6 k7 k9 k10 k11 k13 k14 k16 k17 k19 k20
  rintro S22 ⟨hle, k4, k5, k6, k7, k9, k10, k11, k13, k14, k16, k17, k19, k20, k22⟩
  skip
  refine LOps.do (LDo.alloc hD rfl rfl rfl) rfl rfl rfl ?_
  rintro _ _ ⟨b23, hb23, rfl, rfl⟩
  have n4_23 := fresh_ne hb23 k4
  have m23_4 := n4_23.symm
  have n5_23 := fresh_ne hb23 k5
  have m23_5 := n5_23.symm
  have n6_23 := fresh_ne hb23 k6
  have m23_6 := n6_23.symm
  have n7_23 := fresh_ne hb23 k7
  have m23_7 := n7_23.symm
  have n9_23 := fresh_ne hb23 k9
  have m23_9 := n9_23.symm
  have n10_23 := fresh_ne hb23 k10
  have m23_10 := n10_23.symm
  have n11_23 := fresh_ne hb23 k11
  have m23_11 := n11_23.symm
  have n13_23 := fresh_ne hb23 k13
  have m23_13 := n13_23.symm
  have n14_23 := fresh_ne hb23 k14
  have m23_14 := n14_23.symm
  have n16_23 := fresh_ne hb23 k16
  have m23_16 := n16_23.symm
  have n17_23 := fresh_ne hb23 k17
  have m23_17 := n17_23.symm
  have n19_23 := fresh_ne hb23 k19
  have m23_19 := n19_23.symm
  have n20_23 := fresh_ne hb23 k20
  have m23_20 := n20_23.symm
  have n22_23 := fresh_ne hb23 k22
  have m23_22 := n22_23.symm
  have s23 := hle.none hb23
  refine LOps.gen (fun S' => S.le S' ∧ S'.box b4 = some (leafL l) ∧ S'.box b5 = some (slotL s) ∧ S'.box b6 = some (markL m) ∧ S'.box b7 = some ([iv x, u64 y]) ∧ S'.box b9 = some (leafL l) ∧ S'.box b10 = some (leafL A1) ∧ S'.box b11 = some (slotL A2) ∧ S'.box b13 = some (leafL A1) ∧ S'.box b14 = some (slotL A2) ∧ S'.box b16 = some (leafL B1) ∧ S'.box b17 = some (slotL B2) ∧ S'.box b19 = some (leafL B1) ∧ S'.box b20 = some (slotL B2) ∧ S'.box b22 = some (leafL noLeaf) ∧ S'.box b23 = some (leafL noLeaf)) ⟨hle.newBox hb23 _, (box_new_ne _ _ n4_23).trans k4, (box_new_ne _ _ n5_23).trans k5, (box_new_ne _ _ n6_23).trans k6, (box_new_ne _ _ n7_23).trans k7, (box_new_ne _ _ n9_23).trans k9, (box_new_ne _ _ n10_23).trans k10, (box_new_ne _ _ n11_23).trans k11, (box_new_ne _ _ n13_23).trans k13, (box_new_ne _ _ n14_23).trans k14, (box_new_ne _ _ n16_23).trans k16, (box_new_ne _ _ n17_23).trans k17, (box_new_ne _ _ n19_23).trans k19, (box_new_ne _ _ n20_23).trans k20, (box_new_ne _ _ n22_23).trans k22, (box_new _ _ _).trans (congrArg some zeroLeaf)⟩ ?_
  clear hle hb23 k4 k5 k6 k7 k9 k10 k11 k13 k14 k16 k17 k19 k20 k22
  rintro S23 ⟨hle, k4, k5, k6, k7, k9, k10, k11, k13, k14, k16, k17, k19, k20, k22, k23⟩
  skip
  refine LOps.do (LDo.alloc hD rfl rfl rfl) rfl rfl rfl ?_
  rintro _ _ ⟨b24, hb24, rfl, rfl⟩
  have n4_24 := fresh_ne hb24 k4
  have m24_4 := n4_24.symm
  have n5_24 := fresh_ne hb24 k5
  have m24_5 := n5_24.symm
  have n6_24 := fresh_ne hb24 k6
  have m24_6 := n6_24.symm
  have n7_24 := fresh_ne hb24 k7
  have m24_7 := n7_24.symm
  have n9_24 := fresh_ne hb24 k9
  have m24_9 := n9_24.symm
  have n10_24 := fresh_ne hb24 k10
  have m24_10 := n10_24.symm
  have n11_24 := fresh_ne hb24 k11
  have m24_11 := n11_24.symm
  have n13_24 := fresh_ne hb24 k13
  have m24_13 := n13_24.symm
  have n14_24 := fresh_ne hb24 k14
  have m24_14 := n14_24.symm
  have n16_24 := fresh_ne hb24 k16
  have m24_16 := n16_24.symm
  have n17_24 := fresh_ne hb24 k17
  have m24_17 := n17_24.symm
  have n19_24 := fresh_ne hb24 k19
  have m24_19 := n19_24.symm
  have n20_24 := fresh_ne hb24 k20
  have m24_20 := n20_24.symm
  have n22_24 := fresh_ne hb24 k22
  have m24_22 := n22_24.symm
  have n23_24 := fresh_ne hb24 k23
  have m24_23 := n23_24.symm
  have s24 := hle.none hb24
  refine LOps.gen (fun S' => S.le S' ∧ S'.box b4 = some (leafL l) ∧ S'.box b5 = some (slotL s) ∧ S'.box b6 = some (markL m) ∧ S'.box b7 = some ([iv x, u64 y]) ∧ S'.box b9 = some (leafL l) ∧ S'.box b10 = some (leafL A1) ∧ S'.box b11 = some (slotL A2) ∧ S'.box b13 = some (leafL A1) ∧ S'.box b14 = some (slotL A2) ∧ S'.box b16 = some (leafL B1) ∧ S'.box b17 = some (slotL B2) ∧ S'.box b19 = some (leafL B1) ∧ S'.box b20 = some (slotL B2) ∧ S'.box b22 = some (leafL noLeaf) ∧ S'.box b23 = some (leafL noLeaf) ∧ S'.box b24 = some (markL noMark)) ⟨hle.newBox hb24 _, (box_new_ne _ _ n4_24).trans k4, (box_new_ne _ _ n5_24).trans k5, (box_new_ne _ _ n6_24).trans k6, (box_new_ne _ _ n7_24).trans k7, (box_new_ne _ _ n9_24).trans k9, (box_new_ne _ _ n10_24).trans k10, (box_new_ne _ _ n11_24).trans k11, (box_new_ne _ _ n13_24).trans k13, (box_new_ne _ _ n14_24).trans k14, (box_new_ne _ _ n16_24).trans k16, (box_new_ne _ _ n17_24).trans k17, (box_new_ne _ _ n19_24).trans k19, (box_new_ne _ _ n20_24).trans k20, (box_new_ne _ _ n22_24).trans k22, (box_new_ne _ _ n23_24).trans k23, box_new _ _ _⟩ ?_
  clear hle hb24 k4 k5 k6 k7 k9 k10 k11 k13 k14 k16 k17 k19 k20 k22 k23
  rintro S24 ⟨hle, k4, k5, k6, k7, k9, k10, k11, k13, k14, k16, k17, k19, k20, k22, k23, k24⟩
  repeat (first | refine LOps.nil ?_ | refine andThen_normal ?_ | refine andThen_exit ?_ | refine andThen_ret ?_ | refine inBlock_normal ?_ | refine inBlock_ret ?_ | refine inBlock_here ?_ | refine inBlock_out rfl ?_ | refine LWp.seq ?_ | refine LWp.region ?_ | refine LWp.block ?_ | refine LWp.exit ?_ | refine LWp.ret ?_ | refine LWp.skip ?_ | refine LOps.valA ?_ | refine LOps.outA ?_ | refine LOps.whenA ?_ | refine LOps.pickA ?_)
  refine LOps.storeA (b := b22) (off := 0) (cs := leafL noLeaf) (l := leafL C1) ?_
  refine LOps.gen (fun S' => S.le S' ∧ S'.box b4 = some (leafL l) ∧ S'.box b5 = some (slotL s) ∧ S'.box b6 = some (markL m) ∧ S'.box b7 = some ([iv x, u64 y]) ∧ S'.box b9 = some (leafL l) ∧ S'.box b10 = some (leafL A1) ∧ S'.box b11 = some (slotL A2) ∧ S'.box b13 = some (leafL A1) ∧ S'.box b14 = some (slotL A2) ∧ S'.box b16 = some (leafL B1) ∧ S'.box b17 = some (slotL B2) ∧ S'.box b19 = some (leafL B1) ∧ S'.box b20 = some (slotL B2) ∧ S'.box b22 = some (leafL C1) ∧ S'.box b23 = some (leafL noLeaf) ∧ S'.box b24 = some (markL noMark)) ⟨hle.setBox s22 _, (box_set_ne _ _ n4_22).trans k4, (box_set_ne _ _ n5_22).trans k5, (box_set_ne _ _ n6_22).trans k6, (box_set_ne _ _ n7_22).trans k7, (box_set_ne _ _ n9_22).trans k9, (box_set_ne _ _ n10_22).trans k10, (box_set_ne _ _ n11_22).trans k11, (box_set_ne _ _ n13_22).trans k13, (box_set_ne _ _ n14_22).trans k14, (box_set_ne _ _ n16_22).trans k16, (box_set_ne _ _ n17_22).trans k17, (box_set_ne _ _ n19_22).trans k19, (box_set_ne _ _ n20_22).trans k20, (box_set _ _ _).trans (congrArg some (stLeaf _ _)), (box_set_ne _ _ m23_22).trans k23, (box_set_ne _ _ m24_22).trans k24⟩ ?_
  clear hle k4 k5 k6 k7 k9 k10 k11 k13 k14 k16 k17 k19 k20 k22 k23 k24
  rintro Ss ⟨hle, k4, k5, k6, k7, k9, k10, k11, k13, k14, k16, k17, k19, k20, k22, k23, k24⟩
  refine LOps.storeA (b := b23) (off := 0) (cs := leafL noLeaf) (l := leafL C2) ?_
  refine LOps.gen (fun S' => S.le S' ∧ S'.box b4 = some (leafL l) ∧ S'.box b5 = some (slotL s) ∧ S'.box b6 = some (markL m) ∧ S'.box b7 = some ([iv x, u64 y]) ∧ S'.box b9 = some (leafL l) ∧ S'.box b10 = some (leafL A1) ∧ S'.box b11 = some (slotL A2) ∧ S'.box b13 = some (leafL A1) ∧ S'.box b14 = some (slotL A2) ∧ S'.box b16 = some (leafL B1) ∧ S'.box b17 = some (slotL B2) ∧ S'.box b19 = some (leafL B1) ∧ S'.box b20 = some (slotL B2) ∧ S'.box b22 = some (leafL C1) ∧ S'.box b23 = some (leafL C2) ∧ S'.box b24 = some (markL noMark)) ⟨hle.setBox s23 _, (box_set_ne _ _ n4_23).trans k4, (box_set_ne _ _ n5_23).trans k5, (box_set_ne _ _ n6_23).trans k6, (box_set_ne _ _ n7_23).trans k7, (box_set_ne _ _ n9_23).trans k9, (box_set_ne _ _ n10_23).trans k10, (box_set_ne _ _ n11_23).trans k11, (box_set_ne _ _ n13_23).trans k13, (box_set_ne _ _ n14_23).trans k14, (box_set_ne _ _ n16_23).trans k16, (box_set_ne _ _ n17_23).trans k17, (box_set_ne _ _ n19_23).trans k19, (box_set_ne _ _ n20_23).trans k20, (box_set_ne _ _ n22_23).trans k22, (box_set _ _ _).trans (congrArg some (stLeaf _ _)), (box_set_ne _ _ m24_23).trans k24⟩ ?_
  clear hle k4 k5 k6 k7 k9 k10 k11 k13 k14 k16 k17 k19 k20 k22 k23 k24
  rintro Ss ⟨hle, k4, k5, k6, k7, k9, k10, k11, k13, k14, k16, k17, k19, k20, k22, k23, k24⟩
  refine LOps.storeA (b := b24) (off := 0) (cs := markL noMark) (l := markL C3) ?_
  refine LOps.gen (fun S' => S.le S' ∧ S'.box b4 = some (leafL l) ∧ S'.box b5 = some (slotL s) ∧ S'.box b6 = some (markL m) ∧ S'.box b7 = some ([iv x, u64 y]) ∧ S'.box b9 = some (leafL l) ∧ S'.box b10 = some (leafL A1) ∧ S'.box b11 = some (slotL A2) ∧ S'.box b13 = some (leafL A1) ∧ S'.box b14 = some (slotL A2) ∧ S'.box b16 = some (leafL B1) ∧ S'.box b17 = some (slotL B2) ∧ S'.box b19 = some (leafL B1) ∧ S'.box b20 = some (slotL B2) ∧ S'.box b22 = some (leafL C1) ∧ S'.box b23 = some (leafL C2) ∧ S'.box b24 = some (markL C3)) ⟨hle.setBox s24 _, (box_set_ne _ _ n4_24).trans k4, (box_set_ne _ _ n5_24).trans k5, (box_set_ne _ _ n6_24).trans k6, (box_set_ne _ _ n7_24).trans k7, (box_set_ne _ _ n9_24).trans k9, (box_set_ne _ _ n10_24).trans k10, (box_set_ne _ _ n11_24).trans k11, (box_set_ne _ _ n13_24).trans k13, (box_set_ne _ _ n14_24).trans k14, (box_set_ne _ _ n16_24).trans k16, (box_set_ne _ _ n17_24).trans k17, (box_set_ne _ _ n19_24).trans k19, (box_set_ne _ _ n20_24).trans k20, (box_set_ne _ _ n22_24).trans k22, (box_set_ne _ _ n23_24).trans k23, (box_set _ _ _).trans (congrArg some (rfl))⟩ ?_
  clear hle k4 k5 k6 k7 k9 k10 k11 k13 k14 k16 k17 k19 k20 k22 k23 k24
  rintro Ss ⟨hle, k4, k5, k6, k7, k9, k10, k11, k13, k14, k16, k17, k19, k20, k22, k23, k24⟩
  repeat (first | refine LOps.valH (LVal.load hD rfl rfl k9 rfl (rdLeaf l)) ?_ | refine LOps.nil ?_ | refine andThen_normal ?_ | refine andThen_exit ?_ | refine andThen_ret ?_ | refine inBlock_normal ?_ | refine inBlock_ret ?_ | refine inBlock_here ?_ | refine inBlock_out rfl ?_ | refine LWp.seq ?_ | refine LWp.region ?_ | refine LWp.block ?_ | refine LWp.exit ?_ | refine LWp.ret ?_ | refine LWp.skip ?_ | refine LOps.val (LVal.call rfl rfl (by rw [hP]; exact Try.func43) rfl (by decide) (c9)) rfl rfl rfl ?_ | refine LOps.whenC (LVal.call rfl rfl (by rw [hP]; exact Try.func43) rfl (by decide) (c9)) ?_ | refine LOps.valA ?_ | refine LOps.outA ?_ | refine LOps.whenA ?_ | refine LOps.pickA ?_)
  skip
  refine LOps.do (LDo.alloc hD rfl rfl rfl) rfl rfl rfl ?_
  rintro _ _ ⟨b25, hb25, rfl, rfl⟩
  have n4_25 := fresh_ne hb25 k4
  have m25_4 := n4_25.symm
  have n5_25 := fresh_ne hb25 k5
  have m25_5 := n5_25.symm
  have n6_25 := fresh_ne hb25 k6
  have m25_6 := n6_25.symm
  have n7_25 := fresh_ne hb25 k7
  have m25_7 := n7_25.symm
  have n9_25 := fresh_ne hb25 k9
  have m25_9 := n9_25.symm
  have n10_25 := fresh_ne hb25 k10
  have m25_10 := n10_25.symm
  have n11_25 := fresh_ne hb25 k11
  have m25_11 := n11_25.symm
  have n13_25 := fresh_ne hb25 k13
  have m25_13 := n13_25.symm
  have n14_25 := fresh_ne hb25 k14
  have m25_14 := n14_25.symm
  have n16_25 := fresh_ne hb25 k16
  have m25_16 := n16_25.symm
  have n17_25 := fresh_ne hb25 k17
  have m25_17 := n17_25.symm
  have n19_25 := fresh_ne hb25 k19
  have m25_19 := n19_25.symm
  have n20_25 := fresh_ne hb25 k20
  have m25_20 := n20_25.symm
  have n22_25 := fresh_ne hb25 k22
  have m25_22 := n22_25.symm
  have n23_25 := fresh_ne hb25 k23
  have m25_23 := n23_25.symm
  have n24_25 := fresh_ne hb25 k24
  have m25_24 := n24_25.symm
  have s25 := hle.none hb25
  refine LOps.gen (fun S' => S.le S' ∧ S'.box b4 = some (leafL l) ∧ S'.box b5 = some (slotL s) ∧ S'.box b6 = some (markL m) ∧ S'.box b7 = some ([iv x, u64 y]) ∧ S'.box b9 = some (leafL l) ∧ S'.box b10 = some (leafL A1) ∧ S'.box b11 = some (slotL A2) ∧ S'.box b13 = some (leafL A1) ∧ S'.box b14 = some (slotL A2) ∧ S'.box b16 = some (leafL B1) ∧ S'.box b17 = some (slotL B2) ∧ S'.box b19 = some (leafL B1) ∧ S'.box b20 = some (slotL B2) ∧ S'.box b22 = some (leafL C1) ∧ S'.box b23 = some (leafL C2) ∧ S'.box b24 = some (markL C3) ∧ S'.box b25 = some (leafL noLeaf)) ⟨hle.newBox hb25 _, (box_new_ne _ _ n4_25).trans k4, (box_new_ne _ _ n5_25).trans k5, (box_new_ne _ _ n6_25).trans k6, (box_new_ne _ _ n7_25).trans k7, (box_new_ne _ _ n9_25).trans k9, (box_new_ne _ _ n10_25).trans k10, (box_new_ne _ _ n11_25).trans k11, (box_new_ne _ _ n13_25).trans k13, (box_new_ne _ _ n14_25).trans k14, (box_new_ne _ _ n16_25).trans k16, (box_new_ne _ _ n17_25).trans k17, (box_new_ne _ _ n19_25).trans k19, (box_new_ne _ _ n20_25).trans k20, (box_new_ne _ _ n22_25).trans k22, (box_new_ne _ _ n23_25).trans k23, (box_new_ne _ _ n24_25).trans k24, (box_new _ _ _).trans (congrArg some zeroLeaf')⟩ ?_
  clear hle hb25 k4 k5 k6 k7 k9 k10 k11 k13 k14 k16 k17 k19 k20 k22 k23 k24
  rintro S25 ⟨hle, k4, k5, k6, k7, k9, k10, k11, k13, k14, k16, k17, k19, k20, k22, k23, k24, k25⟩
  skip
  refine LOps.do (LDo.alloc hD rfl rfl rfl) rfl rfl rfl ?_
  rintro _ _ ⟨b26, hb26, rfl, rfl⟩
  have n4_26 := fresh_ne hb26 k4
  have m26_4 := n4_26.symm
  have n5_26 := fresh_ne hb26 k5
  have m26_5 := n5_26.symm
  have n6_26 := fresh_ne hb26 k6
  have m26_6 := n6_26.symm
  have n7_26 := fresh_ne hb26 k7
  have m26_7 := n7_26.symm
  have n9_26 := fresh_ne hb26 k9
  have m26_9 := n9_26.symm
  have n10_26 := fresh_ne hb26 k10
  have m26_10 := n10_26.symm
  have n11_26 := fresh_ne hb26 k11
  have m26_11 := n11_26.symm
  have n13_26 := fresh_ne hb26 k13
  have m26_13 := n13_26.symm
  have n14_26 := fresh_ne hb26 k14
  have m26_14 := n14_26.symm
  have n16_26 := fresh_ne hb26 k16
  have m26_16 := n16_26.symm
  have n17_26 := fresh_ne hb26 k17
  have m26_17 := n17_26.symm
  have n19_26 := fresh_ne hb26 k19
  have m26_19 := n19_26.symm
  have n20_26 := fresh_ne hb26 k20
  have m26_20 := n20_26.symm
  have n22_26 := fresh_ne hb26 k22
  have m26_22 := n22_26.symm
  have n23_26 := fresh_ne hb26 k23
  have m26_23 := n23_26.symm
  have n24_26 := fresh_ne hb26 k24
  have m26_24 := n24_26.symm
  have n25_26 := fresh_ne hb26 k25
  have m26_25 := n25_26.symm
  have s26 := hle.none hb26
  refine LOps.gen (fun S' => S.le S' ∧ S'.box b4 = some (leafL l) ∧ S'.box b5 = some (slotL s) ∧ S'.box b6 = some (markL m) ∧ S'.box b7 = some ([iv x, u64 y]) ∧ S'.box b9 = some (leafL l) ∧ S'.box b10 = some (leafL A1) ∧ S'.box b11 = some (slotL A2) ∧ S'.box b13 = some (leafL A1) ∧ S'.box b14 = some (slotL A2) ∧ S'.box b16 = some (leafL B1) ∧ S'.box b17 = some (slotL B2) ∧ S'.box b19 = some (leafL B1) ∧ S'.box b20 = some (slotL B2) ∧ S'.box b22 = some (leafL C1) ∧ S'.box b23 = some (leafL C2) ∧ S'.box b24 = some (markL C3) ∧ S'.box b25 = some (leafL noLeaf) ∧ S'.box b26 = some (leafL noLeaf)) ⟨hle.newBox hb26 _, (box_new_ne _ _ n4_26).trans k4, (box_new_ne _ _ n5_26).trans k5, (box_new_ne _ _ n6_26).trans k6, (box_new_ne _ _ n7_26).trans k7, (box_new_ne _ _ n9_26).trans k9, (box_new_ne _ _ n10_26).trans k10, (box_new_ne _ _ n11_26).trans k11, (box_new_ne _ _ n13_26).trans k13, (box_new_ne _ _ n14_26).trans k14, (box_new_ne _ _ n16_26).trans k16, (box_new_ne _ _ n17_26).trans k17, (box_new_ne _ _ n19_26).trans k19, (box_new_ne _ _ n20_26).trans k20, (box_new_ne _ _ n22_26).trans k22, (box_new_ne _ _ n23_26).trans k23, (box_new_ne _ _ n24_26).trans k24, (box_new_ne _ _ n25_26).trans k25, (box_new _ _ _).trans (congrArg some zeroLeaf')⟩ ?_
  clear hle hb26 k4 k5 k6 k7 k9 k10 k11 k13 k14 k16 k17 k19 k20 k22 k23 k24 k25
  rintro S26 ⟨hle, k4, k5, k6, k7, k9, k10, k11, k13, k14, k16, k17, k19, k20, k22, k23, k24, k25, k26⟩
  skip
  refine LOps.do (LDo.alloc hD rfl rfl rfl) rfl rfl rfl ?_
  rintro _ _ ⟨b27, hb27, rfl, rfl⟩
  have n4_27 := fresh_ne hb27 k4
  have m27_4 := n4_27.symm
  have n5_27 := fresh_ne hb27 k5
  have m27_5 := n5_27.symm
  have n6_27 := fresh_ne hb27 k6
  have m27_6 := n6_27.symm
  have n7_27 := fresh_ne hb27 k7
  have m27_7 := n7_27.symm
  have n9_27 := fresh_ne hb27 k9
  have m27_9 := n9_27.symm
  have n10_27 := fresh_ne hb27 k10
  have m27_10 := n10_27.symm
  have n11_27 := fresh_ne hb27 k11
  have m27_11 := n11_27.symm
  have n13_27 := fresh_ne hb27 k13
  have m27_13 := n13_27.symm
  have n14_27 := fresh_ne hb27 k14
  have m27_14 := n14_27.symm
  have n16_27 := fresh_ne hb27 k16
  have m27_16 := n16_27.symm
  have n17_27 := fresh_ne hb27 k17
  have m27_17 := n17_27.symm
  have n19_27 := fresh_ne hb27 k19
  have m27_19 := n19_27.symm
  have n20_27 := fresh_ne hb27 k20
  have m27_20 := n20_27.symm
  have n22_27 := fresh_ne hb27 k22
  have m27_22 := n22_27.symm
  have n23_27 := fresh_ne hb27 k23
  have m27_23 := n23_27.symm
  have n24_27 := fresh_ne hb27 k24
  have m27_24 := n24_27.symm
  have n25_27 := fresh_ne hb27 k25
  have m27_25 := n25_27.symm
  have n26_27 := fresh_ne hb27 k26
  have m27_26 := n26_27.symm
  have s27 := hle.none hb27
  refine LOps.gen (fun S' => S.le S' ∧ S'.box b4 = some (leafL l) ∧ S'.box b5 = some (slotL s) ∧ S'.box b6 = some (markL m) ∧ S'.box b7 = some ([iv x, u64 y]) ∧ S'.box b9 = some (leafL l) ∧ S'.box b10 = some (leafL A1) ∧ S'.box b11 = some (slotL A2) ∧ S'.box b13 = some (leafL A1) ∧ S'.box b14 = some (slotL A2) ∧ S'.box b16 = some (leafL B1) ∧ S'.box b17 = some (slotL B2) ∧ S'.box b19 = some (leafL B1) ∧ S'.box b20 = some (slotL B2) ∧ S'.box b22 = some (leafL C1) ∧ S'.box b23 = some (leafL C2) ∧ S'.box b24 = some (markL C3) ∧ S'.box b25 = some (leafL noLeaf) ∧ S'.box b26 = some (leafL noLeaf) ∧ S'.box b27 = some (markL noMark)) ⟨hle.newBox hb27 _, (box_new_ne _ _ n4_27).trans k4, (box_new_ne _ _ n5_27).trans k5, (box_new_ne _ _ n6_27).trans k6, (box_new_ne _ _ n7_27).trans k7, (box_new_ne _ _ n9_27).trans k9, (box_new_ne _ _ n10_27).trans k10, (box_new_ne _ _ n11_27).trans k11, (box_new_ne _ _ n13_27).trans k13, (box_new_ne _ _ n14_27).trans k14, (box_new_ne _ _ n16_27).trans k16, (box_new_ne _ _ n17_27).trans k17, (box_new_ne _ _ n19_27).trans k19, (box_new_ne _ _ n20_27).trans k20, (box_new_ne _ _ n22_27).trans k22, (box_new_ne _ _ n23_27).trans k23, (box_new_ne _ _ n24_27).trans k24, (box_new_ne _ _ n25_27).trans k25, (box_new_ne _ _ n26_27).trans k26, box_new _ _ _⟩ ?_
  clear hle hb27 k4 k5 k6 k7 k9 k10 k11 k13 k14 k16 k17 k19 k20 k22 k23 k24 k25 k26
  rintro S27 ⟨hle, k4, k5, k6, k7, k9, k10, k11, k13, k14, k16, k17, k19, k20, k22, k23, k24, k25, k26, k27⟩
  repeat (first | refine LOps.nil ?_ | refine andThen_normal ?_ | refine andThen_exit ?_ | refine andThen_ret ?_ | refine inBlock_normal ?_ | refine inBlock_ret ?_ | refine inBlock_here ?_ | refine inBlock_out rfl ?_ | refine LWp.seq ?_ | refine LWp.region ?_ | refine LWp.block ?_ | refine LWp.exit ?_ | refine LWp.ret ?_ | refine LWp.skip ?_ | refine LOps.valA ?_ | refine LOps.outA ?_ | refine LOps.whenA ?_ | refine LOps.pickA ?_)
  refine LOps.storeA (b := b25) (off := 0) (cs := leafL noLeaf) (l := leafL C1) ?_
  refine LOps.gen (fun S' => S.le S' ∧ S'.box b4 = some (leafL l) ∧ S'.box b5 = some (slotL s) ∧ S'.box b6 = some (markL m) ∧ S'.box b7 = some ([iv x, u64 y]) ∧ S'.box b9 = some (leafL l) ∧ S'.box b10 = some (leafL A1) ∧ S'.box b11 = some (slotL A2) ∧ S'.box b13 = some (leafL A1) ∧ S'.box b14 = some (slotL A2) ∧ S'.box b16 = some (leafL B1) ∧ S'.box b17 = some (slotL B2) ∧ S'.box b19 = some (leafL B1) ∧ S'.box b20 = some (slotL B2) ∧ S'.box b22 = some (leafL C1) ∧ S'.box b23 = some (leafL C2) ∧ S'.box b24 = some (markL C3) ∧ S'.box b25 = some (leafL C1) ∧ S'.box b26 = some (leafL noLeaf) ∧ S'.box b27 = some (markL noMark)) ⟨hle.setBox s25 _, (box_set_ne _ _ n4_25).trans k4, (box_set_ne _ _ n5_25).trans k5, (box_set_ne _ _ n6_25).trans k6, (box_set_ne _ _ n7_25).trans k7, (box_set_ne _ _ n9_25).trans k9, (box_set_ne _ _ n10_25).trans k10, (box_set_ne _ _ n11_25).trans k11, (box_set_ne _ _ n13_25).trans k13, (box_set_ne _ _ n14_25).trans k14, (box_set_ne _ _ n16_25).trans k16, (box_set_ne _ _ n17_25).trans k17, (box_set_ne _ _ n19_25).trans k19, (box_set_ne _ _ n20_25).trans k20, (box_set_ne _ _ n22_25).trans k22, (box_set_ne _ _ n23_25).trans k23, (box_set_ne _ _ n24_25).trans k24, (box_set _ _ _).trans (congrArg some (stLeaf _ _)), (box_set_ne _ _ m26_25).trans k26, (box_set_ne _ _ m27_25).trans k27⟩ ?_
  clear hle k4 k5 k6 k7 k9 k10 k11 k13 k14 k16 k17 k19 k20 k22 k23 k24 k25 k26 k27
  rintro Ss ⟨hle, k4, k5, k6, k7, k9, k10, k11, k13, k14, k16, k17, k19, k20, k22, k23, k24, k25, k26, k27⟩
  refine LOps.storeA (b := b26) (off := 0) (cs := leafL noLeaf) (l := leafL C2) ?_
  refine LOps.gen (fun S' => S.le S' ∧ S'.box b4 = some (leafL l) ∧ S'.box b5 = some (slotL s) ∧ S'.box b6 = some (markL m) ∧ S'.box b7 = some ([iv x, u64 y]) ∧ S'.box b9 = some (leafL l) ∧ S'.box b10 = some (leafL A1) ∧ S'.box b11 = some (slotL A2) ∧ S'.box b13 = some (leafL A1) ∧ S'.box b14 = some (slotL A2) ∧ S'.box b16 = some (leafL B1) ∧ S'.box b17 = some (slotL B2) ∧ S'.box b19 = some (leafL B1) ∧ S'.box b20 = some (slotL B2) ∧ S'.box b22 = some (leafL C1) ∧ S'.box b23 = some (leafL C2) ∧ S'.box b24 = some (markL C3) ∧ S'.box b25 = some (leafL C1) ∧ S'.box b26 = some (leafL C2) ∧ S'.box b27 = some (markL noMark)) ⟨hle.setBox s26 _, (box_set_ne _ _ n4_26).trans k4, (box_set_ne _ _ n5_26).trans k5, (box_set_ne _ _ n6_26).trans k6, (box_set_ne _ _ n7_26).trans k7, (box_set_ne _ _ n9_26).trans k9, (box_set_ne _ _ n10_26).trans k10, (box_set_ne _ _ n11_26).trans k11, (box_set_ne _ _ n13_26).trans k13, (box_set_ne _ _ n14_26).trans k14, (box_set_ne _ _ n16_26).trans k16, (box_set_ne _ _ n17_26).trans k17, (box_set_ne _ _ n19_26).trans k19, (box_set_ne _ _ n20_26).trans k20, (box_set_ne _ _ n22_26).trans k22, (box_set_ne _ _ n23_26).trans k23, (box_set_ne _ _ n24_26).trans k24, (box_set_ne _ _ n25_26).trans k25, (box_set _ _ _).trans (congrArg some (stLeaf _ _)), (box_set_ne _ _ m27_26).trans k27⟩ ?_
  clear hle k4 k5 k6 k7 k9 k10 k11 k13 k14 k16 k17 k19 k20 k22 k23 k24 k25 k26 k27
  rintro Ss ⟨hle, k4, k5, k6, k7, k9, k10, k11, k13, k14, k16, k17, k19, k20, k22, k23, k24, k25, k26, k27⟩
  refine LOps.storeA (b := b27) (off := 0) (cs := markL noMark) (l := markL C3) ?_
  refine LOps.gen (fun S' => S.le S' ∧ S'.box b4 = some (leafL l) ∧ S'.box b5 = some (slotL s) ∧ S'.box b6 = some (markL m) ∧ S'.box b7 = some ([iv x, u64 y]) ∧ S'.box b9 = some (leafL l) ∧ S'.box b10 = some (leafL A1) ∧ S'.box b11 = some (slotL A2) ∧ S'.box b13 = some (leafL A1) ∧ S'.box b14 = some (slotL A2) ∧ S'.box b16 = some (leafL B1) ∧ S'.box b17 = some (slotL B2) ∧ S'.box b19 = some (leafL B1) ∧ S'.box b20 = some (slotL B2) ∧ S'.box b22 = some (leafL C1) ∧ S'.box b23 = some (leafL C2) ∧ S'.box b24 = some (markL C3) ∧ S'.box b25 = some (leafL C1) ∧ S'.box b26 = some (leafL C2) ∧ S'.box b27 = some (markL C3)) ⟨hle.setBox s27 _, (box_set_ne _ _ n4_27).trans k4, (box_set_ne _ _ n5_27).trans k5, (box_set_ne _ _ n6_27).trans k6, (box_set_ne _ _ n7_27).trans k7, (box_set_ne _ _ n9_27).trans k9, (box_set_ne _ _ n10_27).trans k10, (box_set_ne _ _ n11_27).trans k11, (box_set_ne _ _ n13_27).trans k13, (box_set_ne _ _ n14_27).trans k14, (box_set_ne _ _ n16_27).trans k16, (box_set_ne _ _ n17_27).trans k17, (box_set_ne _ _ n19_27).trans k19, (box_set_ne _ _ n20_27).trans k20, (box_set_ne _ _ n22_27).trans k22, (box_set_ne _ _ n23_27).trans k23, (box_set_ne _ _ n24_27).trans k24, (box_set_ne _ _ n25_27).trans k25, (box_set_ne _ _ n26_27).trans k26, (box_set _ _ _).trans (congrArg some (rfl))⟩ ?_
  clear hle k4 k5 k6 k7 k9 k10 k11 k13 k14 k16 k17 k19 k20 k22 k23 k24 k25 k26 k27
  rintro Ss ⟨hle, k4, k5, k6, k7, k9, k10, k11, k13, k14, k16, k17, k19, k20, k22, k23, k24, k25, k26, k27⟩
  repeat (first | refine LOps.nil ?_ | refine andThen_normal ?_ | refine andThen_exit ?_ | refine andThen_ret ?_ | refine inBlock_normal ?_ | refine inBlock_ret ?_ | refine inBlock_here ?_ | refine inBlock_out rfl ?_ | refine LWp.seq ?_ | refine LWp.region ?_ | refine LWp.block ?_ | refine LWp.exit ?_ | refine LWp.ret ?_ | refine LWp.skip ?_ | refine LOps.valA ?_ | refine LOps.outA ?_ | refine LOps.whenA ?_ | refine LOps.pickA ?_ | refine LOps.storeA ?_)
  refine LWp.drawL [0, 1, 2, 3, 4, 5, 6, 7, 8, 9, 10, 11, 12, 13, 14, 15, 16, 17, 18, 19, 20, 21, 22, 23, 24, 25, 26, 27, 28, 29, 30, 31, 32, 33, 34, 35, 36, 37, 38, 39, 40, 41, 42, 43, 44, 45, 46, 47, 48, 49, 50, 51, 52, 53, 54, 55, 56, 57, 58, 59] (by rw [hP]; rfl) rfl ?_
  refine LRl.val (r := .one (bv true)) (fun _ _ => LVal.call rfl rfl (by rw [hP]; exact Try.func11) rfl (by decide) c0) rfl rfl rfl ?_
  refine LRl.val (r := .one (bv true)) (fun _ _ => LVal.to (LVal.move (.inl rfl)) rfl) rfl rfl rfl ?_
  refine LRl.val (r := .agg (leafL A1)) (fun _ hS => LVal.load hD rfl rfl (hS.box _ _ k10 id) rfl (rdLeaf A1)) rfl rfl rfl ?_
  refine LRl.val (r := .agg (leafL A1)) (fun _ _ => LVal.call rfl rfl (by rw [hP]; exact Try.func19) rfl (by decide) d1) rfl rfl rfl ?_
  refine LRl.val (r := .agg (leafL A1)) (fun _ hS => LVal.load hD rfl rfl (hS.box _ _ k13 id) rfl (rdLeaf A1)) rfl rfl rfl ?_
  refine LRl.val (r := .one (bv true)) (fun _ _ => LVal.eqRLeaf hP rfl rfl rfl) rfl rfl rfl ?_
  refine LRl.val (r := .one (bv true)) (fun _ _ => LVal.to (LVal.pick rfl rfl) rfl) rfl rfl rfl ?_
  refine LRl.val (r := .one (bv true)) (fun _ _ => LVal.to (LVal.move (.inl rfl)) rfl) rfl rfl rfl ?_
  refine LRl.val (r := .agg (slotL A2)) (fun _ hS => LVal.load hD rfl rfl (hS.box _ _ k11 id) rfl (rdSl A2)) rfl rfl rfl ?_
  refine LRl.val (r := .agg (slotL A2)) (fun _ _ => LVal.call rfl rfl (by rw [hP]; exact Try.func27) rfl (by decide) d2) rfl rfl rfl ?_
  refine LRl.val (r := .agg (slotL A2)) (fun _ hS => LVal.load hD rfl rfl (hS.box _ _ k14 id) rfl (rdSl A2)) rfl rfl rfl ?_
  refine LRl.val (r := .one (bv true)) (fun _ _ => LVal.to (LVal.eqAgg hD rfl rfl rfl rfl rfl eb rfl) (by exact congrArg (fun b => TV.one (bv b)) (slot_self _))) rfl rfl rfl ?_
  refine LRl.val (r := .one (bv true)) (fun _ _ => LVal.to (LVal.pick rfl rfl) rfl) rfl rfl rfl ?_
  refine LRl.val (r := .one (bv true)) (fun _ _ => LVal.to (LVal.move (.inl rfl)) rfl) rfl rfl rfl ?_
  refine LRl.val (r := .one (bv A3)) (fun _ _ => LVal.to (LVal.move (.inl rfl)) rfl) rfl rfl rfl ?_
  refine LRl.val (r := .one (bv A3)) (fun _ _ => LVal.to (LVal.move (.inl rfl)) rfl) rfl rfl rfl ?_
  refine LRl.val (r := .one (bv true)) (fun _ _ => LVal.to (LVal.binOp hD rfl rfl rfl rfl) (by exact congrArg (fun b => TV.one (bv b)) (bool_self _))) rfl rfl rfl ?_
  refine LRl.val (r := .one (bv true)) (fun _ _ => LVal.to (LVal.pick rfl rfl) rfl) rfl rfl rfl ?_
  refine LRl.val (r := .one (bv true)) (fun _ _ => LVal.to (LVal.move (.inl rfl)) rfl) rfl rfl rfl ?_
  refine LRl.val (r := .agg (leafL B1)) (fun _ hS => LVal.load hD rfl rfl (hS.box _ _ k16 id) rfl (rdLeaf B1)) rfl rfl rfl ?_
  refine LRl.val (r := .agg (leafL B1)) (fun _ _ => LVal.call rfl rfl (by rw [hP]; exact Try.func19) rfl (by decide) d3) rfl rfl rfl ?_
  refine LRl.val (r := .agg (leafL B1)) (fun _ hS => LVal.load hD rfl rfl (hS.box _ _ k19 id) rfl (rdLeaf B1)) rfl rfl rfl ?_
  refine LRl.val (r := .one (bv true)) (fun _ _ => LVal.eqRLeaf hP rfl rfl rfl) rfl rfl rfl ?_
  refine LRl.val (r := .one (bv true)) (fun _ _ => LVal.to (LVal.pick rfl rfl) rfl) rfl rfl rfl ?_
  refine LRl.val (r := .one (bv true)) (fun _ _ => LVal.to (LVal.move (.inl rfl)) rfl) rfl rfl rfl ?_
  refine LRl.val (r := .agg (slotL B2)) (fun _ hS => LVal.load hD rfl rfl (hS.box _ _ k17 id) rfl (rdSl B2)) rfl rfl rfl ?_
  refine LRl.val (r := .agg (slotL B2)) (fun _ _ => LVal.call rfl rfl (by rw [hP]; exact Try.func27) rfl (by decide) d4) rfl rfl rfl ?_
  refine LRl.val (r := .agg (slotL B2)) (fun _ hS => LVal.load hD rfl rfl (hS.box _ _ k20 id) rfl (rdSl B2)) rfl rfl rfl ?_
  refine LRl.val (r := .one (bv true)) (fun _ _ => LVal.to (LVal.eqAgg hD rfl rfl rfl rfl rfl eb rfl) (by exact congrArg (fun b => TV.one (bv b)) (slot_self _))) rfl rfl rfl ?_
  refine LRl.val (r := .one (bv true)) (fun _ _ => LVal.to (LVal.pick rfl rfl) rfl) rfl rfl rfl ?_
  refine LRl.val (r := .one (bv true)) (fun _ _ => LVal.to (LVal.move (.inl rfl)) rfl) rfl rfl rfl ?_
  refine LRl.val (r := .one (bv B3)) (fun _ _ => LVal.to (LVal.move (.inl rfl)) rfl) rfl rfl rfl ?_
  refine LRl.val (r := .one (bv B3)) (fun _ _ => LVal.to (LVal.move (.inl rfl)) rfl) rfl rfl rfl ?_
  refine LRl.val (r := .one (bv true)) (fun _ _ => LVal.to (LVal.binOp hD rfl rfl rfl rfl) (by exact congrArg (fun b => TV.one (bv b)) (bool_self _))) rfl rfl rfl ?_
  refine LRl.val (r := .one (bv true)) (fun _ _ => LVal.to (LVal.pick rfl rfl) rfl) rfl rfl rfl ?_
  refine LRl.val (r := .one (bv true)) (fun _ _ => LVal.to (LVal.move (.inl rfl)) rfl) rfl rfl rfl ?_
  refine LRl.val (r := .agg (leafL C1)) (fun _ hS => LVal.load hD rfl rfl (hS.box _ _ k22 id) rfl (rdLeaf C1)) rfl rfl rfl ?_
  refine LRl.val (r := .agg (leafL C1)) (fun _ _ => LVal.call rfl rfl (by rw [hP]; exact Try.func19) rfl (by decide) d5) rfl rfl rfl ?_
  refine LRl.val (r := .agg (leafL C1)) (fun _ hS => LVal.load hD rfl rfl (hS.box _ _ k25 id) rfl (rdLeaf C1)) rfl rfl rfl ?_
  refine LRl.val (r := .one (bv true)) (fun _ _ => LVal.eqRLeaf hP rfl rfl rfl) rfl rfl rfl ?_
  refine LRl.val (r := .one (bv true)) (fun _ _ => LVal.to (LVal.pick rfl rfl) rfl) rfl rfl rfl ?_
  refine LRl.val (r := .one (bv true)) (fun _ _ => LVal.to (LVal.move (.inl rfl)) rfl) rfl rfl rfl ?_
  refine LRl.val (r := .agg (leafL C2)) (fun _ hS => LVal.load hD rfl rfl (hS.box _ _ k23 id) rfl (rdLeaf C2)) rfl rfl rfl ?_
  refine LRl.val (r := .agg (leafL C2)) (fun _ _ => LVal.call rfl rfl (by rw [hP]; exact Try.func19) rfl (by decide) d6) rfl rfl rfl ?_
  refine LRl.val (r := .agg (leafL C2)) (fun _ hS => LVal.load hD rfl rfl (hS.box _ _ k26 id) rfl (rdLeaf C2)) rfl rfl rfl ?_
  refine LRl.val (r := .one (bv true)) (fun _ _ => LVal.eqRLeaf hP rfl rfl rfl) rfl rfl rfl ?_
  refine LRl.val (r := .one (bv true)) (fun _ _ => LVal.to (LVal.pick rfl rfl) rfl) rfl rfl rfl ?_
  refine LRl.val (r := .one (bv true)) (fun _ _ => LVal.to (LVal.move (.inl rfl)) rfl) rfl rfl rfl ?_
  refine LRl.val (r := .agg (markL C3)) (fun _ hS => LVal.load hD rfl rfl (hS.box _ _ k24 id) rfl (rdMk C3)) rfl rfl rfl ?_
  refine LRl.val (r := .agg (markL C3)) (fun _ _ => LVal.call rfl rfl (by rw [hP]; exact Try.func22) rfl (by decide) d7) rfl rfl rfl ?_
  refine LRl.val (r := .agg (markL C3)) (fun _ hS => LVal.load hD rfl rfl (hS.box _ _ k27 id) rfl (rdMk C3)) rfl rfl rfl ?_
  refine LRl.val (r := .one (bv true)) (fun _ _ => LVal.to (LVal.eqAgg hD rfl rfl rfl rfl rfl ea rfl) (by exact congrArg (fun b => TV.one (bv b)) (mark_eq rfl))) rfl rfl rfl ?_
  refine LRl.val (r := .one (bv true)) (fun _ _ => LVal.to (LVal.pick rfl rfl) rfl) rfl rfl rfl ?_
  refine LRl.val (r := .one (bv true)) (fun _ _ => LVal.to (LVal.move (.inl rfl)) rfl) rfl rfl rfl ?_
  refine LRl.val (r := .agg (leafL newL)) (fun _ _ => LVal.call rfl rfl (by rw [hP]; exact Try.func38) rfl (by decide) d8) rfl rfl rfl ?_
  refine LRl.val (r := .agg (leafL newL)) (fun _ _ => LVal.call rfl rfl (by rw [hP]; exact Try.func19) rfl (by decide) d9) rfl rfl rfl ?_
  refine LRl.val (r := .agg (leafL newL)) (fun _ _ => LVal.call rfl rfl (by rw [hP]; exact Try.func44) rfl (by decide) d0) rfl rfl rfl ?_
  refine LRl.val (r := .one (bv true)) (fun _ _ => LVal.eqRLeaf hP rfl rfl rfl) rfl rfl rfl ?_
  refine LRl.val (r := .one (bv true)) (fun _ _ => LVal.to (LVal.pick rfl rfl) rfl) rfl rfl rfl ?_
  refine LRl.val (r := .one (bv true)) (fun _ _ => LVal.to (LVal.move (.inr rfl)) rfl) rfl rfl rfl ?_
  refine LRl.nil ?_
  repeat (first | refine LOps.nil ?_ | refine andThen_normal ?_ | refine andThen_exit ?_ | refine andThen_ret ?_ | refine inBlock_normal ?_ | refine inBlock_ret ?_ | refine inBlock_here ?_ | refine inBlock_out rfl ?_ | refine LWp.seq ?_ | refine LWp.region ?_ | refine LWp.block ?_ | refine LWp.exit ?_ | refine LWp.ret ?_ | refine LWp.skip ?_ | refine LOps.valA ?_ | refine LOps.outA ?_ | refine LOps.whenA ?_ | refine LOps.pickA ?_ | refine LOps.storeA ?_)
  exact ⟨_, LRes.one rfl, rfl⟩
end Go.Proofs.Ytgkjhlmfgaaddaa.LF

namespace Go.Proofs.Ytgkjhlmfgaaddaa
open Go.RowKit LF
theorem mleafWrites_walk (W : World) (v0 : Value) (l0 : List LV) (y0 : Typed LF.D 31 l0) (g0 : RepT (G0 Try.prog W) W (allCells W) (argTV ti31 l0) v0) (v1 : Value) (l1 : List LV) (y1 : Typed LF.D 28 l1) (g1 : RepT (G0 Try.prog W) W (allCells W) (argTV ti28 l1) v1) (v2 : Value) (l2 : List LV) (y2 : Typed LF.D 24 l2) (g2 : RepT (G0 Try.prog W) W (allCells W) (argTV ti24 l2) v2) (v3 : Value) (l3 : List LV) (y3 : Typed LF.D 26 l3) (g3 : RepT (G0 Try.prog W) W (allCells W) (argTV ti26 l3) v3) :
    Calls Try.prog 9 #[v0, v1, v2, v3] W fun e W' => e = .returned (.bool true) ∧ Below W.heap.size W W' := by
  obtain ⟨l, rfl, hl⟩ := typed_leaf y0
  obtain ⟨s, rfl, hs⟩ := typed_slot y1
  obtain ⟨m, rfl, hm⟩ := typed_mark y2
  obtain ⟨x, y, rfl⟩ := typed_handle y3
  exact law_calls (fun G S h => writes_L h l hl s hs m hm x y S) (.cons (vs := [v1, v2, v3]) g0 (.cons (vs := [v2, v3]) g1 (.cons (vs := [v3]) g2 (.cons (vs := []) g3 .nil))))
end Go.Proofs.Ytgkjhlmfgaaddaa
