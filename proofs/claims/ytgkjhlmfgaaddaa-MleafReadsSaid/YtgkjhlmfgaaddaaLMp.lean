/- Leaves: the document's Use, and the law's leaf. -/
import Derived.Test.YtgkjhlmfgaaddaaLMn
set_option linter.unusedVariables false
set_option linter.unusedSimpArgs false
namespace Go.Proofs.Ytgkjhlmfgaaddaa.LF
open Go.RowKit
set_option linter.unusedVariables false

theorem ofR_form (p : Nat) : ∃ U F : List Nat, ofR p = .tup [.agg [.sl .sh (iList U), .sl .sh (iList F)], .one (.v (.bool (rt (slots p))))] ∧ U.length = usedN p ∧ ∀ k, k < usedN p → U[k]? = some (nib p k) := by
  by_cases hr : Rt (slots p)
  · refine ⟨_, _, by rw [ofR_yes hr, rt_yes hr], ?_, fun k hk => ?_⟩
    · have := slots_length p
      unfold usedN
      rw [rt_yes hr, if_pos rfl, List.length_take]; omega
    · have hu : usedN p = p % 16 := by unfold usedN; rw [rt_yes hr]; rfl
      rw [List.getElem?_take, if_pos (by omega), slots_get p k (by omega)]
  · have hu : usedN p = 0 := by unfold usedN; rw [rt_no hr]; rfl
    exact ⟨[], [], by rw [ofR_no hr, rt_no hr]; rfl, by rw [hu]; rfl, fun k hk => by omega⟩
theorem usedN_le (p : Nat) : usedN p ≤ 15 := by unfold usedN; split <;> omega
theorem usedN_nib {p k : Nat} (h : k < usedN p) : nib p k < 15 := by
  unfold usedN at h
  split at h
  · rename_i hr; exact nib_low hr (by omega)
  · omega

/-- The slots in use, in order. -/
def useOf (l : LeafV) (n : Nat) : List SlotV := (List.range n).map l.rank
def usesL (l : LeafV) : List SlotV := useOf l (usedN l.p)
abbrev sList (xs : List SlotV) : List (List LV) := xs.map slotL
theorem useOf_snoc (l : LeafV) (n : Nat) : sList (useOf l n) ++ [slotL (l.rank n)] = sList (useOf l (n + 1)) := by simp [useOf, List.range_succ]
theorem useOf_len (l : LeafV) (n : Nat) : (useOf l n).length = n := by simp [useOf]
theorem usesL_len (l : LeafV) : (usesL l).length = usedN l.p := by simp [usesL, useOf]

set_option maxHeartbeats 8000000 in
theorem refUse_L {G : Ctx} (hP : G.P = Try.prog) (l : LeafV) (hl : l.ok) (S : LS) : LCalls G 26 [.agg (leafL l)] (fun r S' => r = .one (.sl .sh (sList (usesL l))) ∧ S.le S') S := by
  have hD : TabOK G.P D := by rw [hP]; exact hD0
  obtain ⟨U, F, hof, hUl, hUk⟩ := ofR_form l.p
  have c1 := of_F hP l.p hl.p
  rw [hof] at c1
  have hn := usedN_le l.p
  refine LCalls.enter (fn := Try.f26) (by rw [hP]; exact Try.func26) rfl rfl ?_
  repeat (first | refine LOps.nil ?_ | refine andThen_normal ?_ | refine andThen_exit ?_ | refine andThen_ret ?_ | refine inBlock_normal ?_ | refine inBlock_ret ?_ | refine inBlock_here ?_ | refine inBlock_out rfl ?_ | refine LWp.seq ?_ | refine LWp.region ?_ | refine LWp.block ?_ | refine LWp.exit ?_ | refine LWp.ret ?_ | refine LWp.skip ?_ | refine LOps.valA ?_ | refine LOps.outA ?_ | refine LOps.whenA ?_ | refine LOps.pickA ?_ | refine LOps.storeA ?_)
  have hle := LS.le.refl S
  refine LOps.do (LDo.box rfl rfl) rfl rfl rfl ?_
  rintro _ _ ⟨b1, hb1, rfl, rfl⟩
  have s1 := hle.none hb1
  refine LOps.gen (fun S' => S.le S' ∧ S'.box b1 = some (leafL l)) ⟨hle.newBox hb1 _, box_new _ _ _⟩ ?_
  clear hle hb1 
  rintro S1 ⟨hle, k1⟩
  repeat (first | refine LOps.valH (LVal.load hD rfl rfl k1 rfl (rdPerm l)) ?_ | refine LOps.valG (LVal.call rfl rfl (by rw [hP]; exact Try.func50) rfl (by decide) c1) rfl rfl rfl ?_ | refine LOps.nil ?_ | refine andThen_normal ?_ | refine andThen_exit ?_ | refine andThen_ret ?_ | refine inBlock_normal ?_ | refine inBlock_ret ?_ | refine inBlock_here ?_ | refine inBlock_out rfl ?_ | refine LWp.seq ?_ | refine LWp.region ?_ | refine LWp.block ?_ | refine LWp.exit ?_ | refine LWp.ret ?_ | refine LWp.skip ?_ | refine LOps.valA ?_ | refine LOps.outA ?_ | refine LOps.whenA ?_ | refine LOps.pickA ?_ | refine LOps.storeA ?_)
  skip
  refine LOps.do (LDo.alloc hD rfl rfl rfl) rfl rfl rfl ?_
  rintro _ _ ⟨b3, hb3, rfl, rfl⟩
  have n1_3 := fresh_ne hb3 k1
  have m3_1 := n1_3.symm
  have s3 := hle.none hb3
  refine LOps.gen (fun S' => S.le S' ∧ S'.box b1 = some (leafL l) ∧ S'.box b3 = some ([.sl .nil [], .sl .nil []])) ⟨hle.newBox hb3 _, (box_new_ne _ _ n1_3).trans k1, box_new _ _ _⟩ ?_
  clear hle hb3 k1
  rintro S3 ⟨hle, k1, k3⟩
  repeat (first | refine LOps.nil ?_ | refine andThen_normal ?_ | refine andThen_exit ?_ | refine andThen_ret ?_ | refine inBlock_normal ?_ | refine inBlock_ret ?_ | refine inBlock_here ?_ | refine inBlock_out rfl ?_ | refine LWp.seq ?_ | refine LWp.region ?_ | refine LWp.block ?_ | refine LWp.exit ?_ | refine LWp.ret ?_ | refine LWp.skip ?_ | refine LOps.valA ?_ | refine LOps.outA ?_ | refine LOps.whenA ?_ | refine LOps.pickA ?_ | refine LOps.storeA ?_)
  refine LWp.gen (fun S' => S.le S' ∧ S'.box b1 = some (leafL l) ∧ S'.box b3 = some [.sl .sh (iList U), .sl .sh (iList F)]) ⟨hle.setBox s3 _, (box_set_ne _ _ n1_3).trans k1, box_set _ _ _⟩ ?_
  clear hle k1 k3
  rintro S2 ⟨hle, k1, k3⟩
  repeat (first | refine LOps.nil ?_ | refine andThen_normal ?_ | refine andThen_exit ?_ | refine andThen_ret ?_ | refine inBlock_normal ?_ | refine inBlock_ret ?_ | refine inBlock_here ?_ | refine inBlock_out rfl ?_ | refine LWp.seq ?_ | refine LWp.region ?_ | refine LWp.block ?_ | refine LWp.exit ?_ | refine LWp.ret ?_ | refine LWp.skip ?_ | refine LOps.valA ?_ | refine LOps.outA ?_ | refine LOps.whenA ?_ | refine LOps.pickA ?_ | refine LOps.storeA ?_)
  refine LWp.loop (fun m T S' => ∃ (T' : Nat → TV) (j : Nat) (o : Own), j ≤ usedN l.p ∧ m = usedN l.p - j ∧ S.le S' ∧ S'.box b1 = some (leafL l) ∧ S'.box b3 = some [.sl .sh (iList U), .sl .sh (iList F)] ∧ Owned S' 42 j o ∧ Out S o ∧ T = over T' [(1, ptr b1), (3, ptr b3), (5, .one (.sl o (sList (useOf l j)))), (6, .one (iv (j : Nat)))]) (usedN l.p) ?_ ?_
  · exact ⟨_, 0, .nil, by omega, rfl, hle, k1, k3, by simp [Owned], by simp [Out], holds.over ⟨rfl, rfl, rfl, rfl, trivial⟩⟩
  clear hle k1 k3
  rintro m T S4 ⟨T', j, o, hj, rfl, hle, k1, k3, ho, hx, rfl⟩
  repeat (first | refine LOps.nil ?_ | refine andThen_normal ?_ | refine andThen_exit ?_ | refine andThen_ret ?_ | refine inBlock_normal ?_ | refine inBlock_ret ?_ | refine inBlock_here ?_ | refine inBlock_out rfl ?_ | refine LWp.seq ?_ | refine LWp.region ?_ | refine LWp.block ?_ | refine LWp.exit ?_ | refine LWp.ret ?_ | refine LWp.skip ?_ | refine LOps.valA ?_ | refine LOps.outA ?_ | refine LOps.whenA ?_ | refine LOps.pickA ?_ | refine LOps.storeA ?_)
  refine LWp.cond rfl (fun h => ?_) (fun h => ?_)
  · have hlt : j < usedN l.p := by
      have h : decide ((j : Int) < (((iList U).length : Nat) : Int)) = true := h
      rw [decide_eq_true_iff, List.length_map] at h; omega
    clear h
    have hUj := hUk j hlt
    have hnb := usedN_nib hlt
    repeat (first | refine LOps.val (LVal.indexLit hD rfl rfl rfl (n := j) rfl rfl rfl rfl hUj rfl) rfl rfl rfl ?_ | refine LOps.valH (LVal.indexP hD rfl rfl rfl rfl rfl rfl hnb) ?_ | refine LOps.valH (LVal.load hD rfl rfl k1 rfl (rdSlot l hnb)) ?_ | refine LOps.nil ?_ | refine andThen_normal ?_ | refine andThen_exit ?_ | refine andThen_ret ?_ | refine inBlock_normal ?_ | refine inBlock_ret ?_ | refine inBlock_here ?_ | refine inBlock_out rfl ?_ | refine LWp.seq ?_ | refine LWp.region ?_ | refine LWp.block ?_ | refine LWp.exit ?_ | refine LWp.ret ?_ | refine LWp.skip ?_ | refine LOps.valA ?_ | refine LOps.outA ?_ | refine LOps.whenA ?_ | refine LOps.pickA ?_ | refine LOps.storeA ?_)
    refine LOps.do (LDo.append1 hD rfl rfl rfl rfl rfl rfl rfl rfl rfl (by rw [List.length_map, useOf_len]) ho (by show (j + 1) * 72 ≤ _; omega) (by omega)) rfl rfl rfl ?_
    rintro _ S1 ⟨o', rfl, hown, hup, hnew⟩
    repeat (first | refine LOps.nil ?_ | refine andThen_normal ?_ | refine andThen_exit ?_ | refine andThen_ret ?_ | refine inBlock_normal ?_ | refine inBlock_ret ?_ | refine inBlock_here ?_ | refine inBlock_out rfl ?_ | refine LWp.seq ?_ | refine LWp.region ?_ | refine LWp.block ?_ | refine LWp.exit ?_ | refine LWp.ret ?_ | refine LWp.skip ?_ | refine LOps.valA ?_ | refine LOps.outA ?_ | refine LOps.whenA ?_ | refine LOps.pickA ?_ | refine LOps.storeA ?_)
    exact ⟨usedN l.p - (j + 1), by omega, _, j + 1, o', by omega, rfl, hle.upto hup hx, hup.box _ _ k1, hup.box _ _ k3, hown, hx.next hle hnew, holds.over ⟨rfl, rfl, congrArg (fun q => TV.one (.sl o' q)) (useOf_snoc l j), rfl, trivial⟩⟩
  · have hge : j = usedN l.p := by
      have h : decide ((j : Int) < (((iList U).length : Nat) : Int)) = false := h
      rw [decide_eq_false_iff_not, List.length_map] at h; omega
    subst hge
    repeat (first | refine LOps.nil ?_ | refine andThen_normal ?_ | refine andThen_exit ?_ | refine andThen_ret ?_ | refine inBlock_normal ?_ | refine inBlock_ret ?_ | refine inBlock_here ?_ | refine inBlock_out rfl ?_ | refine LWp.seq ?_ | refine LWp.region ?_ | refine LWp.block ?_ | refine LWp.exit ?_ | refine LWp.ret ?_ | refine LWp.skip ?_ | refine LOps.valA ?_ | refine LOps.outA ?_ | refine LOps.whenA ?_ | refine LOps.pickA ?_ | refine LOps.storeA ?_)
    exact ⟨_, (LRes.one rfl).sh, rfl, hle⟩
theorem refUse_F {G : Ctx} (hP : G.P = Try.prog) (l : LeafV) (hl : l.ok) : LFun G 26 [.agg (leafL l)] (.one (.sl .sh (sList (usesL l)))) := LFun.of fun S => refUse_L hP l hl S

/-- What the law's leaf holds within its loop. -/
def partL (l : LeafV) (n : Nat) : LeafV := { l with slot := fun k => if k < n then l.slot k else noSlot }
theorem partL_up (l : LeafV) (n : Nat) : leafL ((partL l n).up n (l.slot n)) = leafL (partL l (n + 1)) := by
  refine leafEq rfl (fun k hk => ?_) rfl rfl rfl rfl
  show (if k = n then l.slot n else if k < n then l.slot k else noSlot) = if k < n + 1 then l.slot k else noSlot
  by_cases h : k = n
  · subst h; rw [if_pos rfl, if_pos (by omega)]
  · rw [if_neg h]
    by_cases h2 : k < n
    · rw [if_pos h2, if_pos (by omega)]
    · rw [if_neg h2, if_neg (by omega)]
theorem stZero' (l : LeafV) : splice (ti45.zero.cells.toList.map constLV) 0 (leafL l) = leafL l := by rw [zeroLeaf']; exact stLeaf _ _
theorem partL_all (l : LeafV) : leafL (partL l 15) = leafL l := leafEq rfl (fun k hk => if_pos hk) rfl rfl rfl rfl

set_option maxHeartbeats 8000000 in
theorem leaf_F {G : Ctx} (hP : G.P = Try.prog) (l : LeafV) : LFun G 19 [.agg (leafL l)] (.agg (leafL l)) := LFun.of fun S => by
  have hD : TabOK G.P D := by rw [hP]; exact hD0
  have c1 := mark_F hP l.high
  refine LCalls.enter (fn := Try.f19) (by rw [hP]; exact Try.func19) rfl rfl ?_
  repeat (first | refine LOps.nil ?_ | refine andThen_normal ?_ | refine andThen_exit ?_ | refine andThen_ret ?_ | refine inBlock_normal ?_ | refine inBlock_ret ?_ | refine inBlock_here ?_ | refine inBlock_out rfl ?_ | refine LWp.seq ?_ | refine LWp.region ?_ | refine LWp.block ?_ | refine LWp.exit ?_ | refine LWp.ret ?_ | refine LWp.skip ?_ | refine LOps.valA ?_ | refine LOps.outA ?_ | refine LOps.whenA ?_ | refine LOps.pickA ?_ | refine LOps.storeA ?_)
  have hle := LS.le.refl S
  refine LOps.do (LDo.box rfl rfl) rfl rfl rfl ?_
  rintro _ _ ⟨b1, hb1, rfl, rfl⟩
  have s1 := hle.none hb1
  refine LOps.gen (fun S' => S.le S' ∧ S'.box b1 = some (leafL l)) ⟨hle.newBox hb1 _, box_new _ _ _⟩ ?_
  clear hle hb1 
  rintro S1 ⟨hle, k1⟩
  repeat (first | refine LOps.nil ?_ | refine andThen_normal ?_ | refine andThen_exit ?_ | refine andThen_ret ?_ | refine inBlock_normal ?_ | refine inBlock_ret ?_ | refine inBlock_here ?_ | refine inBlock_out rfl ?_ | refine LWp.seq ?_ | refine LWp.region ?_ | refine LWp.block ?_ | refine LWp.exit ?_ | refine LWp.ret ?_ | refine LWp.skip ?_ | refine LOps.valA ?_ | refine LOps.outA ?_ | refine LOps.whenA ?_ | refine LOps.pickA ?_ | refine LOps.storeA ?_)
  skip
  refine LOps.do (LDo.alloc hD rfl rfl rfl) rfl rfl rfl ?_
  rintro _ _ ⟨b2, hb2, rfl, rfl⟩
  have n1_2 := fresh_ne hb2 k1
  have m2_1 := n1_2.symm
  have s2 := hle.none hb2
  refine LOps.gen (fun S' => S.le S' ∧ S'.box b1 = some (leafL l) ∧ S'.box b2 = some (leafL noLeaf)) ⟨hle.newBox hb2 _, (box_new_ne _ _ n1_2).trans k1, (box_new _ _ _).trans (congrArg some zeroLeaf')⟩ ?_
  clear hle hb2 k1
  rintro S2 ⟨hle, k1, k2⟩
  repeat (first | refine LOps.nil ?_ | refine andThen_normal ?_ | refine andThen_exit ?_ | refine andThen_ret ?_ | refine inBlock_normal ?_ | refine inBlock_ret ?_ | refine inBlock_here ?_ | refine inBlock_out rfl ?_ | refine LWp.seq ?_ | refine LWp.region ?_ | refine LWp.block ?_ | refine LWp.exit ?_ | refine LWp.ret ?_ | refine LWp.skip ?_ | refine LOps.valA ?_ | refine LOps.outA ?_ | refine LOps.whenA ?_ | refine LOps.pickA ?_ | refine LOps.storeA ?_)
  refine LWp.drawL [0, 1, 2, 3, 4, 5, 6, 7, 8, 9, 10, 11] (by rw [hP]; rfl) rfl ?_
  repeat (first | refine LRl.valH (LVal.load hD rfl rfl k1 rfl (rdPerm l)) ?_ (fun _ hS => LVal.load hD rfl rfl (hS.box _ _ k1 (by first | exact id | (intro hx; rcases hx with hx | hx <;> omega) | (intro hx; have hx2 : _ = _ := hx; omega))) rfl (rdPerm l)) | refine LRl.valH (LVal.load hD rfl rfl k1 rfl (rdBounded l)) ?_ (fun _ hS => LVal.load hD rfl rfl (hS.box _ _ k1 (by first | exact id | (intro hx; rcases hx with hx | hx <;> omega) | (intro hx; have hx2 : _ = _ := hx; omega))) rfl (rdBounded l)) | refine LRl.valH (LVal.load hD rfl rfl k1 rfl (rdHigh l)) ?_ (fun _ hS => LVal.load hD rfl rfl (hS.box _ _ k1 (by first | exact id | (intro hx; rcases hx with hx | hx <;> omega) | (intro hx; have hx2 : _ = _ := hx; omega))) rfl (rdHigh l)) | refine LRl.valH (LVal.load hD rfl rfl k1 rfl (rdNext l)) ?_ (fun _ hS => LVal.load hD rfl rfl (hS.box _ _ k1 (by first | exact id | (intro hx; rcases hx with hx | hx <;> omega) | (intro hx; have hx2 : _ = _ := hx; omega))) rfl (rdNext l)) | refine LRl.val (fun _ _ => LVal.build (l := leafL (partL l 0)) hD rfl rfl rfl rfl rfl rfl (by kernel_rfl)) rfl rfl rfl ?_ | refine LRl.valC (fun _ => (LVal.call rfl rfl (by rw [hP]; exact Try.func22) rfl (by decide) (c1))) ?_ | refine LRl.whenC (fun _ => (LVal.call rfl rfl (by rw [hP]; exact Try.func22) rfl (by decide) (c1))) ?_ | refine LRl.nil ?_ | refine LRl.valA ?_ | refine LRl.outA ?_ | refine LRl.whenA ?_ | refine LRl.pickA ?_)
  refine LRl.actA (LDo.alloc hD rfl rfl rfl).toAct rfl rfl rfl rfl (by rintro _ _ ⟨b, hb, rfl, rfl⟩ q _; exact .inl (.newBox hb _)) ?_
  rintro _ _ ⟨b3, hb3, rfl, rfl⟩
  have n1_3 := fresh_ne hb3 k1
  have n2_3 := fresh_ne hb3 k2
  have s3 := hle.none hb3
  refine LRl.actA0 (LDo.store hD rfl rfl (box_new _ _ _) rfl rfl rfl rfl).toAct rfl rfl rfl (by
    rintro _ _ ⟨rfl, rfl⟩ q hq
    rcases (by omega : q = 0 ∨ q = 1 ∨ q = 2 ∨ q = 3 ∨ q = 4 ∨ q = 5 ∨ q = 6 ∨ q = 7 ∨ q = 8 ∨ q = 9 ∨ q = 10) with h | h | h | h | h | h | h | h | h | h | h <;> subst h <;> first | exact .inr rfl | exact .inl (LS.leX.setBox (by omega) _)) ?_
  rintro _ _ ⟨rfl, rfl⟩
  repeat (first | refine LRl.nil ?_ | refine LRl.valA ?_ | refine LRl.outA ?_ | refine LRl.whenA ?_ | refine LRl.pickA ?_)
  refine LWp.gen (fun S' => S.le S' ∧ S'.box b1 = some (leafL l) ∧ S'.box b2 = some (leafL noLeaf) ∧ S'.box b3 = some (leafL (partL l 0))) ⟨(hle.newBox hb3 _).setBox s3 _, (box_set_ne _ _ n1_3).trans ((box_new_ne _ _ n1_3).trans k1), (box_set_ne _ _ n2_3).trans ((box_new_ne _ _ n2_3).trans k2), (box_set _ _ _).trans (congrArg some (stZero' _))⟩ ?_
  clear hle k1 k2 hb3
  rintro S3 ⟨hle, k1, k2, k3⟩
  repeat (first | refine LOps.nil ?_ | refine andThen_normal ?_ | refine andThen_exit ?_ | refine andThen_ret ?_ | refine inBlock_normal ?_ | refine inBlock_ret ?_ | refine inBlock_here ?_ | refine inBlock_out rfl ?_ | refine LWp.seq ?_ | refine LWp.region ?_ | refine LWp.block ?_ | refine LWp.exit ?_ | refine LWp.ret ?_ | refine LWp.skip ?_ | refine LOps.valA ?_ | refine LOps.outA ?_ | refine LOps.whenA ?_ | refine LOps.pickA ?_ | refine LOps.storeA ?_)
  refine LWp.loop (fun m T S' => ∃ (T' : Nat → TV) (j : Nat), j ≤ 15 ∧ m = 15 - j ∧ S.le S' ∧ S'.box b1 = some (leafL l) ∧ S'.box b2 = some (leafL noLeaf) ∧ S'.box b3 = some (leafL (partL l j)) ∧ T = over T' [(1, ptr b1), (2, ptr b2), (3, ptr b3), (4, .one (iv (j : Nat)))]) 15 ?_ ?_
  · exact ⟨_, 0, by omega, rfl, hle, k1, k2, k3, holds.over ⟨rfl, rfl, rfl, rfl, trivial⟩⟩
  clear hle k1 k2 k3
  rintro m T S4 ⟨T', j, hj, rfl, hle, k1, k2, k3, rfl⟩
  repeat (first | refine LOps.nil ?_ | refine andThen_normal ?_ | refine andThen_exit ?_ | refine andThen_ret ?_ | refine inBlock_normal ?_ | refine inBlock_ret ?_ | refine inBlock_here ?_ | refine inBlock_out rfl ?_ | refine LWp.seq ?_ | refine LWp.region ?_ | refine LWp.block ?_ | refine LWp.exit ?_ | refine LWp.ret ?_ | refine LWp.skip ?_ | refine LOps.valA ?_ | refine LOps.outA ?_ | refine LOps.whenA ?_ | refine LOps.pickA ?_ | refine LOps.storeA ?_)
  refine LWp.cond rfl (fun h => ?_) (fun h => ?_)
  · have hlt : j < 15 := by
      have h : decide ((j : Int) < 15) = true := h
      rw [decide_eq_true_iff] at h; omega
    clear h
    have c2 := one_S hP (l.slot j)
    repeat (first | refine LOps.valH (LVal.indexP hD rfl rfl rfl rfl rfl rfl hlt) ?_ | refine LOps.valH (LVal.load hD rfl rfl k1 rfl (rdSlot l hlt)) ?_ | refine LOps.nil ?_ | refine andThen_normal ?_ | refine andThen_exit ?_ | refine andThen_ret ?_ | refine inBlock_normal ?_ | refine inBlock_ret ?_ | refine inBlock_here ?_ | refine inBlock_out rfl ?_ | refine LWp.seq ?_ | refine LWp.region ?_ | refine LWp.block ?_ | refine LWp.exit ?_ | refine LWp.ret ?_ | refine LWp.skip ?_ | refine LOps.val (LVal.call rfl rfl (by rw [hP]; exact Try.func27) rfl (by decide) (c2)) rfl rfl rfl ?_ | refine LOps.whenC (LVal.call rfl rfl (by rw [hP]; exact Try.func27) rfl (by decide) (c2)) ?_ | refine LOps.valA ?_ | refine LOps.outA ?_ | refine LOps.whenA ?_ | refine LOps.pickA ?_ | refine LOps.storeA ?_)
    refine LOps.do0 (LDo.storeSlot hD rfl rfl k3 rfl rfl rfl hlt) rfl rfl ?_
    rintro _ _ ⟨rfl, rfl⟩
    repeat (first | refine LOps.nil ?_ | refine andThen_normal ?_ | refine andThen_exit ?_ | refine andThen_ret ?_ | refine inBlock_normal ?_ | refine inBlock_ret ?_ | refine inBlock_here ?_ | refine inBlock_out rfl ?_ | refine LWp.seq ?_ | refine LWp.region ?_ | refine LWp.block ?_ | refine LWp.exit ?_ | refine LWp.ret ?_ | refine LWp.skip ?_ | refine LOps.valA ?_ | refine LOps.outA ?_ | refine LOps.whenA ?_ | refine LOps.pickA ?_ | refine LOps.storeA ?_)
    exact ⟨15 - (j + 1), by omega, _, j + 1, by omega, rfl, hle.setBox s3 _, (box_set_ne _ _ n1_3).trans k1, (box_set_ne _ _ n2_3).trans k2, (box_set _ _ _).trans (congrArg some (partL_up l j)), holds.over ⟨rfl, rfl, rfl, rfl, trivial⟩⟩
  · have hge : j = 15 := by
      have h : decide ((j : Int) < 15) = false := h
      rw [decide_eq_false_iff_not] at h; omega
    subst hge
    rw [partL_all] at k3
    repeat (first | refine LOps.valH (LVal.load hD rfl rfl k3 rfl (rdLeaf l)) ?_ | refine LOps.storeA (b := b2) (off := 0) (cs := leafL noLeaf) (l := leafL l) ?_ | refine LOps.nil ?_ | refine andThen_normal ?_ | refine andThen_exit ?_ | refine andThen_ret ?_ | refine inBlock_normal ?_ | refine inBlock_ret ?_ | refine inBlock_here ?_ | refine inBlock_out rfl ?_ | refine LWp.seq ?_ | refine LWp.region ?_ | refine LWp.block ?_ | refine LWp.exit ?_ | refine LWp.ret ?_ | refine LWp.skip ?_ | refine LOps.valA ?_ | refine LOps.outA ?_ | refine LOps.whenA ?_ | refine LOps.pickA ?_ | refine LOps.storeA ?_)
    exact ⟨_, LRes.cell rfl (.cell rfl ((box_set _ _ _).trans (congrArg some (stLeaf _ _))) (hP ▸ tok45) (rdLeaf _)), rfl, hle.setBox s2 _⟩
end Go.Proofs.Ytgkjhlmfgaaddaa.LF
