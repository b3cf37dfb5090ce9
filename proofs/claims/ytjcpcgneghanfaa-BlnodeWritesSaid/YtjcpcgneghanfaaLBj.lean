/- The B-link node: the walk of Split, as a value. -/
import Derived.Test.YtjcpcgneghanfaaLBi
set_option linter.unusedVariables false
set_option linter.unusedSimpArgs false
namespace Go.Proofs.Ytjcpcgneghanfaa.LF
open Go.RowKit
set_option linter.unusedVariables false

set_option maxHeartbeats 16000000 in
set_option maxRecDepth 10000 in
theorem split_F {G : Ctx} (hP : G.P = Try.prog) (n : NdV) (hn : n.ok) (h : HdV) : LFun G 24 [.agg (ndL n), .agg (hdL h)] (.tup [.agg (ndL (splitN n h).1), .agg (ndL (splitN n h).2.1), .one (sv (splitN n h).2.2)]) := LFun.of fun S => by
  have hD : TabOK G.P D := by rw [hP]; exact hD0
  have hml : (n.keys.map sL).length = n.keys.length := List.length_map ..
  have hnk := hn.keys
  have c1 := clone_F hP n hn
  have c2 := right_F hP n hn
  refine LCalls.enter (fn := Try.f24) (by rw [hP]; exact Try.func24) rfl rfl ?_
  repeat (first | refine LOps.nil ?_ | refine andThen_normal ?_ | refine andThen_exit ?_ | refine andThen_ret ?_ | refine inBlock_normal ?_ | refine inBlock_ret ?_ | refine inBlock_here ?_ | refine inBlock_out rfl ?_ | refine LWp.seq ?_ | refine LWp.region ?_ | refine LWp.block ?_ | refine LWp.exit ?_ | refine LWp.ret ?_ | refine LWp.skip ?_ | refine LOps.valA ?_ | refine LOps.outA ?_ | refine LOps.whenA ?_ | refine LOps.pickA ?_ | refine LOps.storeA ?_)
  have hle := LS.le.refl S
  refine LOps.do (LDo.box rfl rfl) rfl rfl rfl ?_
  rintro _ _ ⟨b2, hb2, rfl, rfl⟩
  have s2 := hle.none hb2
  refine LOps.gen (fun S' => S.le S' ∧ S'.box b2 = some (ndL n)) ⟨hle.newBox hb2 _, box_new _ _ _⟩ ?_
  clear hle hb2 
  rintro S2 ⟨hle, k2⟩
  skip
  refine LOps.do (LDo.box rfl rfl) rfl rfl rfl ?_
  rintro _ _ ⟨b3, hb3, rfl, rfl⟩
  have n2_3 := fresh_ne hb3 k2
  have m3_2 := n2_3.symm
  have s3 := hle.none hb3
  refine LOps.gen (fun S' => S.le S' ∧ S'.box b2 = some (ndL n) ∧ S'.box b3 = some (hdL h)) ⟨hle.newBox hb3 _, (box_new_ne _ _ n2_3).trans k2, box_new _ _ _⟩ ?_
  clear hle hb3 k2
  rintro S3 ⟨hle, k2, k3⟩
  skip
  refine LOps.do (LDo.alloc hD rfl rfl rfl) rfl rfl rfl ?_
  rintro _ _ ⟨b4, hb4, rfl, rfl⟩
  have n2_4 := fresh_ne hb4 k2
  have m4_2 := n2_4.symm
  have n3_4 := fresh_ne hb4 k3
  have m4_3 := n3_4.symm
  have s4 := hle.none hb4
  refine LOps.gen (fun S' => S.le S' ∧ S'.box b2 = some (ndL n) ∧ S'.box b3 = some (hdL h) ∧ S'.box b4 = some (ndX noNd (.sl .nil []) (.sl .nil []) (.sl .nil []))) ⟨hle.newBox hb4 _, (box_new_ne _ _ n2_4).trans k2, (box_new_ne _ _ n3_4).trans k3, box_new _ _ _⟩ ?_
  clear hle hb4 k2 k3
  rintro S4 ⟨hle, k2, k3, k4⟩
  skip
  refine LOps.do (LDo.alloc hD rfl rfl rfl) rfl rfl rfl ?_
  rintro _ _ ⟨b5, hb5, rfl, rfl⟩
  have n2_5 := fresh_ne hb5 k2
  have m5_2 := n2_5.symm
  have n3_5 := fresh_ne hb5 k3
  have m5_3 := n3_5.symm
  have n4_5 := fresh_ne hb5 k4
  have m5_4 := n4_5.symm
  have s5 := hle.none hb5
  refine LOps.gen (fun S' => S.le S' ∧ S'.box b2 = some (ndL n) ∧ S'.box b3 = some (hdL h) ∧ S'.box b4 = some (ndX noNd (.sl .nil []) (.sl .nil []) (.sl .nil [])) ∧ S'.box b5 = some (ndX noNd (.sl .nil []) (.sl .nil []) (.sl .nil []))) ⟨hle.newBox hb5 _, (box_new_ne _ _ n2_5).trans k2, (box_new_ne _ _ n3_5).trans k3, (box_new_ne _ _ n4_5).trans k4, box_new _ _ _⟩ ?_
  clear hle hb5 k2 k3 k4
  rintro S5 ⟨hle, k2, k3, k4, k5⟩
  repeat (first | (refine LWp.seq (LWp.cut 2 (fun T' S' => S' = S5 ∧ ∃ (T'' : Nat → TV), T' = over T'' [(2, ptr b2), (3, ptr b3), (4, ptr b4), (5, ptr b5), (6, .one (sv noBytes)), (7, .one (iv (if n.leaf then 2 else 3 : Nat)))]) rfl ?_ ?_); rotate_left) | refine LOps.nil ?_ | refine andThen_normal ?_ | refine andThen_exit ?_ | refine andThen_ret ?_ | refine inBlock_normal ?_ | refine inBlock_ret ?_ | refine inBlock_here ?_ | refine inBlock_out rfl ?_ | refine LWp.seq ?_ | refine LWp.region ?_ | refine LWp.block ?_ | refine LWp.exit ?_ | refine LWp.ret ?_ | refine LWp.skip ?_ | refine LOps.valA ?_ | refine LOps.outA ?_ | refine LOps.whenA ?_ | refine LOps.pickA ?_ | refine LOps.storeA ?_)
  rotate_left
  · repeat (first | refine LOps.nil ?_ | refine andThen_normal ?_ | refine andThen_exit ?_ | refine andThen_ret ?_ | refine inBlock_normal ?_ | refine inBlock_ret ?_ | refine inBlock_here ?_ | refine inBlock_out rfl ?_ | refine LWp.seq ?_ | refine LWp.region ?_ | refine LWp.block ?_ | refine LWp.exit ?_ | refine LWp.ret ?_ | refine LWp.skip ?_ | refine LOps.valA ?_ | refine LOps.outA ?_ | refine LOps.whenA ?_ | refine LOps.pickA ?_ | refine LOps.storeA ?_)
    refine LWp.cond rfl (fun hh => ?_) (fun hh => ?_)
    · have hh : (!n.leaf) = true := hh
      repeat (first | refine LOps.nil ?_ | refine andThen_normal ?_ | refine andThen_exit ?_ | refine andThen_ret ?_ | refine inBlock_normal ?_ | refine inBlock_ret ?_ | refine inBlock_here ?_ | refine inBlock_out rfl ?_ | refine LWp.seq ?_ | refine LWp.region ?_ | refine LWp.block ?_ | refine LWp.exit ?_ | refine LWp.ret ?_ | refine LWp.skip ?_ | refine LOps.valA ?_ | refine LOps.outA ?_ | refine LOps.whenA ?_ | refine LOps.pickA ?_ | refine LOps.storeA ?_)
      exact ⟨rfl, _, holds.over ⟨rfl, rfl, rfl, rfl, rfl, by rw [if_neg (by simpa using hh)]; rfl, trivial⟩⟩
    · have hh : (!n.leaf) = false := hh
      repeat (first | refine LOps.nil ?_ | refine andThen_normal ?_ | refine andThen_exit ?_ | refine andThen_ret ?_ | refine inBlock_normal ?_ | refine inBlock_ret ?_ | refine inBlock_here ?_ | refine inBlock_out rfl ?_ | refine LWp.seq ?_ | refine LWp.region ?_ | refine LWp.block ?_ | refine LWp.exit ?_ | refine LWp.ret ?_ | refine LWp.skip ?_ | refine LOps.valA ?_ | refine LOps.outA ?_ | refine LOps.whenA ?_ | refine LOps.pickA ?_ | refine LOps.storeA ?_)
      exact ⟨rfl, _, holds.over ⟨rfl, rfl, rfl, rfl, rfl, by rw [if_pos (by simpa using hh)]; rfl, trivial⟩⟩
  rintro _ S6 ⟨hS6, T6, rfl⟩
  subst hS6
  repeat (first | refine LOps.valH (LVal.load hD rfl rfl k2 rfl rfl) ?_ | refine LOps.nil ?_ | refine andThen_normal ?_ | refine andThen_exit ?_ | refine andThen_ret ?_ | refine inBlock_normal ?_ | refine inBlock_ret ?_ | refine inBlock_here ?_ | refine inBlock_out rfl ?_ | refine LWp.seq ?_ | refine LWp.region ?_ | refine LWp.block ?_ | refine LWp.exit ?_ | refine LWp.ret ?_ | refine LWp.skip ?_ | refine LOps.val (LVal.call rfl rfl (by rw [hP]; exact Try.func39) rfl (by decide) (c1)) rfl rfl rfl ?_ | refine LOps.whenC (LVal.call rfl rfl (by rw [hP]; exact Try.func39) rfl (by decide) (c1)) ?_ | refine LOps.valA ?_ | refine LOps.outA ?_ | refine LOps.whenA ?_ | refine LOps.pickA ?_)
  refine LOps.storeA (b := b4) (off := 0) (cs := ndX noNd (.sl .nil []) (.sl .nil []) (.sl .nil [])) (l := ndL n) ?_
  refine LOps.gen (fun S' => S.le S' ∧ S'.box b2 = some (ndL n) ∧ S'.box b3 = some (hdL h) ∧ S'.box b4 = some (ndL n) ∧ S'.box b5 = some (ndX noNd (.sl .nil []) (.sl .nil []) (.sl .nil []))) ⟨hle.setBox s4 _, (box_set_ne _ _ n2_4).trans k2, (box_set_ne _ _ n3_4).trans k3, (box_set _ _ _).trans (congrArg some (rfl)), (box_set_ne _ _ m5_4).trans k5⟩ ?_
  clear hle k2 k3 k4 k5
  rintro Ss ⟨hle, k2, k3, k4, k5⟩
  repeat (first | refine LOps.valH (LVal.load hD rfl rfl k2 rfl rfl) ?_ | refine LOps.nil ?_ | refine andThen_normal ?_ | refine andThen_exit ?_ | refine andThen_ret ?_ | refine inBlock_normal ?_ | refine inBlock_ret ?_ | refine inBlock_here ?_ | refine inBlock_out rfl ?_ | refine LWp.seq ?_ | refine LWp.region ?_ | refine LWp.block ?_ | refine LWp.exit ?_ | refine LWp.ret ?_ | refine LWp.skip ?_ | refine LOps.val (LVal.call rfl rfl (by rw [hP]; exact Try.func16) rfl (by decide) (c2)) rfl rfl rfl ?_ | refine LOps.whenC (LVal.call rfl rfl (by rw [hP]; exact Try.func16) rfl (by decide) (c2)) ?_ | refine LOps.valA ?_ | refine LOps.outA ?_ | refine LOps.whenA ?_ | refine LOps.pickA ?_ | refine LOps.storeA ?_)
  refine LWp.cond rfl (fun hh => ?_) (fun hh => ?_)
  · have hh : (!rightN n || decide (((n.keys.map sL).length : Int) < ((if n.leaf then 2 else 3 : Nat) : Int))) = true := hh
    have e : splitN n h = (n, noNd, noBytes) := by
      rw [hml] at hh
      have : noSplit n = true := by
        unfold noSplit
        refine Eq.trans ?_ hh; congr 1
        rw [Bool.eq_iff_iff, decide_eq_true_iff, decide_eq_true_iff]; split <;> omega
      rw [splitN, if_pos this]
    rw [e]
    repeat (first | refine LOps.valH (LVal.load hD rfl rfl k4 rfl rfl) ?_ | refine LOps.val (r := .agg (ndL noNd)) (LVal.shTo (LVal.build hD rfl rfl rfl rfl rfl rfl rfl) rfl) rfl rfl rfl ?_ | refine LOps.nil ?_ | refine andThen_normal ?_ | refine andThen_exit ?_ | refine andThen_ret ?_ | refine inBlock_normal ?_ | refine inBlock_ret ?_ | refine inBlock_here ?_ | refine inBlock_out rfl ?_ | refine LWp.seq ?_ | refine LWp.region ?_ | refine LWp.block ?_ | refine LWp.exit ?_ | refine LWp.ret ?_ | refine LWp.skip ?_ | refine LOps.valA ?_ | refine LOps.outA ?_ | refine LOps.whenA ?_ | refine LOps.pickA ?_)
    refine LOps.storeA (b := b4) (off := 0) (cs := ndL n) (l := ndL n) ?_
    refine LOps.gen (fun S' => S.le S' ∧ S'.box b2 = some (ndL n) ∧ S'.box b3 = some (hdL h) ∧ S'.box b4 = some (ndL n) ∧ S'.box b5 = some (ndX noNd (.sl .nil []) (.sl .nil []) (.sl .nil []))) ⟨hle.setBox s4 _, (box_set_ne _ _ n2_4).trans k2, (box_set_ne _ _ n3_4).trans k3, (box_set _ _ _).trans (congrArg some (rfl)), (box_set_ne _ _ m5_4).trans k5⟩ ?_
    clear hle k2 k3 k4 k5
    rintro Ss ⟨hle, k2, k3, k4, k5⟩
    refine LOps.storeA (b := b5) (off := 0) (cs := ndX noNd (.sl .nil []) (.sl .nil []) (.sl .nil [])) (l := ndL noNd) ?_
    refine LOps.gen (fun S' => S.le S' ∧ S'.box b2 = some (ndL n) ∧ S'.box b3 = some (hdL h) ∧ S'.box b4 = some (ndL n) ∧ S'.box b5 = some (ndL noNd)) ⟨hle.setBox s5 _, (box_set_ne _ _ n2_5).trans k2, (box_set_ne _ _ n3_5).trans k3, (box_set_ne _ _ n4_5).trans k4, (box_set _ _ _).trans (congrArg some (rfl))⟩ ?_
    clear hle k2 k3 k4 k5
    rintro Ss ⟨hle, k2, k3, k4, k5⟩
    repeat (first | refine LOps.nil ?_ | refine andThen_normal ?_ | refine andThen_exit ?_ | refine andThen_ret ?_ | refine inBlock_normal ?_ | refine inBlock_ret ?_ | refine inBlock_here ?_ | refine inBlock_out rfl ?_ | refine LWp.seq ?_ | refine LWp.region ?_ | refine LWp.block ?_ | refine LWp.exit ?_ | refine LWp.ret ?_ | refine LWp.skip ?_ | refine LOps.valA ?_ | refine LOps.outA ?_ | refine LOps.whenA ?_ | refine LOps.pickA ?_ | refine LOps.storeA ?_)
    exact ⟨_, splitRes hP rfl rfl k4 rfl k5 rfl, rfl, hle⟩
  have hh : (!rightN n || decide (((n.keys.map sL).length : Int) < ((if n.leaf then 2 else 3 : Nat) : Int))) = false := hh
  have hns : noSplit n = false := by
    rw [hml] at hh
    unfold noSplit
    refine Eq.trans ?_ hh; congr 1
    rw [Bool.eq_iff_iff, decide_eq_true_iff, decide_eq_true_iff]; split <;> omega
  rw [Bool.or_eq_false_iff, decide_eq_false_iff_not, hml] at hh
  have hr : rightN n = true := by simpa using hh.1
  have hlo : 2 ≤ n.keys.length := by
    have := hh.2
    split at this <;> omega
  clear hh
  have e : splitN n h = if n.leaf then (n.lowL (n.keys.length / 2) h, n.upL (n.keys.length / 2), n.keys.getD (n.keys.length / 2) noBytes)
    else (n.lowI (n.keys.length / 2) h, n.upI (n.keys.length / 2), n.keys.getD (n.keys.length / 2) noBytes) := by rw [splitN, if_neg (by rw [hns]; decide)]
  rw [e]
  clear e hns
  obtain ⟨m, hm⟩ : ∃ m, m = n.keys.length / 2 := ⟨_, rfl⟩
  rw [← hm]
  have hm1 : m < n.keys.length := by omega
  have hsep : n.keys.getD m noBytes = n.keys[m] := getD_key hm1
  repeat (first | refine LOps.valH (LVal.load hD rfl rfl k2 rfl rfl) ?_ | refine LOps.nil ?_ | refine andThen_normal ?_ | refine andThen_exit ?_ | refine andThen_ret ?_ | refine inBlock_normal ?_ | refine inBlock_ret ?_ | refine inBlock_here ?_ | refine inBlock_out rfl ?_ | refine LWp.seq ?_ | refine LWp.region ?_ | refine LWp.block ?_ | refine LWp.exit ?_ | refine LWp.ret ?_ | refine LWp.skip ?_ | refine LOps.val (LVal.call rfl rfl (by rw [hP]; exact Try.func39) rfl (by decide) (c1)) rfl rfl rfl ?_ | refine LOps.whenC (LVal.call rfl rfl (by rw [hP]; exact Try.func39) rfl (by decide) (c1)) ?_ | refine LOps.valA ?_ | refine LOps.outA ?_ | refine LOps.whenA ?_ | refine LOps.pickA ?_)
  refine LOps.storeA (b := b5) (off := 0) (cs := ndX noNd (.sl .nil []) (.sl .nil []) (.sl .nil [])) (l := ndL n) ?_
  refine LOps.gen (fun S' => S.le S' ∧ S'.box b2 = some (ndL n) ∧ S'.box b3 = some (hdL h) ∧ S'.box b4 = some (ndL n) ∧ S'.box b5 = some (ndL n)) ⟨hle.setBox s5 _, (box_set_ne _ _ n2_5).trans k2, (box_set_ne _ _ n3_5).trans k3, (box_set_ne _ _ n4_5).trans k4, (box_set _ _ _).trans (congrArg some (rfl))⟩ ?_
  clear hle k2 k3 k4 k5
  rintro Ss ⟨hle, k2, k3, k4, k5⟩
  repeat (first | refine LOps.valH (LVal.load hD rfl rfl k2 rfl rfl) ?_ | refine LOps.valH (LVal.to (LVal.quo64 rfl rfl rfl (by rw [hml]; omega)) (r' := .one (iv (m : Nat))) (by refine congrArg (fun x => TV.one (iv x)) ?_; rw [hml]; omega)) ?_ | refine LOps.valH (LVal.takeMap3 (n := m) hD rfl rfl rfl rfl rfl rfl rfl (by omega) rfl (fun _ _ => rfl)) ?_ | refine LOps.nil ?_ | refine andThen_normal ?_ | refine andThen_exit ?_ | refine andThen_ret ?_ | refine inBlock_normal ?_ | refine inBlock_ret ?_ | refine inBlock_here ?_ | refine inBlock_out rfl ?_ | refine LWp.seq ?_ | refine LWp.region ?_ | refine LWp.block ?_ | refine LWp.exit ?_ | refine LWp.ret ?_ | refine LWp.skip ?_ | refine LOps.valA ?_ | refine LOps.outA ?_ | refine LOps.whenA ?_ | refine LOps.pickA ?_)
  refine LOps.storeA (b := b4) (off := 1) (cs := ndL n) (l := [.sl .sh ((n.keys.take m).map sL)]) ?_
  refine LOps.gen (fun S' => S.le S' ∧ S'.box b2 = some (ndL n) ∧ S'.box b3 = some (hdL h) ∧ S'.box b4 = some (ndL { n with keys := n.keys.take m }) ∧ S'.box b5 = some (ndL n)) ⟨hle.setBox s4 _, (box_set_ne _ _ n2_4).trans k2, (box_set_ne _ _ n3_4).trans k3, (box_set _ _ _).trans (congrArg some (rfl)), (box_set_ne _ _ m5_4).trans k5⟩ ?_
  clear hle k2 k3 k4 k5
  rintro Ss ⟨hle, k2, k3, k4, k5⟩
  repeat (first | refine LOps.nil ?_ | refine andThen_normal ?_ | refine andThen_exit ?_ | refine andThen_ret ?_ | refine inBlock_normal ?_ | refine inBlock_ret ?_ | refine inBlock_here ?_ | refine inBlock_out rfl ?_ | refine LWp.seq ?_ | refine LWp.region ?_ | refine LWp.block ?_ | refine LWp.exit ?_ | refine LWp.ret ?_ | refine LWp.skip ?_ | refine LOps.valA ?_ | refine LOps.outA ?_ | refine LOps.whenA ?_ | refine LOps.pickA ?_ | refine LOps.storeA ?_)
  refine LWp.cond rfl (fun hl => ?_) (fun hl => ?_)
  · have hl : n.leaf = true := hl
    obtain ⟨hvl, hkd⟩ := rightN_leaf hr hl
    rw [if_pos hl]
    repeat (first | refine LOps.valH (LVal.takeMap3 (n := m) hD rfl rfl rfl rfl rfl rfl rfl (by show m ≤ n.vals.length; omega) rfl (fun _ _ => rfl)) ?_ | refine LOps.nil ?_ | refine andThen_normal ?_ | refine andThen_exit ?_ | refine andThen_ret ?_ | refine inBlock_normal ?_ | refine inBlock_ret ?_ | refine inBlock_here ?_ | refine inBlock_out rfl ?_ | refine LWp.seq ?_ | refine LWp.region ?_ | refine LWp.block ?_ | refine LWp.exit ?_ | refine LWp.ret ?_ | refine LWp.skip ?_ | refine LOps.valA ?_ | refine LOps.outA ?_ | refine LOps.whenA ?_ | refine LOps.pickA ?_)
    refine LOps.storeA (b := b4) (off := 2) (cs := ndL { n with keys := n.keys.take m }) (l := [.sl .sh ((n.vals.take m).map sL)]) ?_
    refine LOps.gen (fun S' => S.le S' ∧ S'.box b2 = some (ndL n) ∧ S'.box b3 = some (hdL h) ∧ S'.box b4 = some (ndL { n with keys := n.keys.take m, vals := n.vals.take m }) ∧ S'.box b5 = some (ndL n)) ⟨hle.setBox s4 _, (box_set_ne _ _ n2_4).trans k2, (box_set_ne _ _ n3_4).trans k3, (box_set _ _ _).trans (congrArg some (rfl)), (box_set_ne _ _ m5_4).trans k5⟩ ?_
    clear hle k2 k3 k4 k5
    rintro Ss ⟨hle, k2, k3, k4, k5⟩
    refine LOps.nil ?_
    refine andThen_normal ?_
    refine LWp.drawF (fun q b => (q = 6 ∨ q = 7) ∧ b = b5) [0, 1, 2, 3, 4, 5, 6, 7, 8, 9, 10, 11] (by rw [hP]; rfl) rfl ?_
    repeat (first | refine LRl.valH (LVal.load hD rfl rfl k5 rfl rfl) ?_ (fun _ hS => LVal.load hD rfl rfl (hS.box _ _ k5 (by first | exact id | (intro hx; rcases hx with hx | hx <;> omega) | (intro hx; have hx2 : _ = _ := hx; omega) | (intro hx; exact absurd hx.1 (by decide)))) rfl rfl) | refine LRl.val (fun _ _ => LVal.dropMap (m := m) hD rfl rfl rfl rfl rfl rfl (by omega) rfl (fun _ _ => rfl)) rfl rfl rfl ?_ | refine LRl.nil ?_ | refine LRl.valA ?_ | refine LRl.outA ?_ | refine LRl.whenA ?_ | refine LRl.pickA ?_)
    refine LRl.actA0 (LDo.store hD rfl rfl (k5) rfl rfl rfl rfl).toAct rfl rfl rfl (by
      rintro _ _ ⟨rfl, rfl⟩ q hq
      rcases (by omega : q = 0 ∨ q = 1 ∨ q = 2 ∨ q = 3 ∨ q = 4 ∨ q = 5 ∨ q = 6 ∨ q = 7 ∨ q = 8) with h | h | h | h | h | h | h | h | h <;> subst h <;> first | exact .inr rfl | exact .inl (LS.leX.setBox (by omega) _)) ?_
    rintro _ _ ⟨rfl, rfl⟩
    repeat (first | refine LRl.nil ?_ | refine LRl.valA ?_ | refine LRl.outA ?_ | refine LRl.whenA ?_ | refine LRl.pickA ?_)
    refine LRl.actA0 (LDo.store hD rfl rfl ((box_set _ _ _)) rfl rfl rfl rfl).toAct rfl rfl rfl (by
      rintro _ _ ⟨rfl, rfl⟩ q hq
      rcases (by omega : q = 0 ∨ q = 1 ∨ q = 2 ∨ q = 3 ∨ q = 4 ∨ q = 5 ∨ q = 6 ∨ q = 7 ∨ q = 8 ∨ q = 9 ∨ q = 10) with h | h | h | h | h | h | h | h | h | h | h <;> subst h <;> first | exact .inr rfl | exact .inl (LS.leX.setBox (by omega) _)) ?_
    rintro _ _ ⟨rfl, rfl⟩
    repeat (first | refine LRl.nil ?_ | refine LRl.valA ?_ | refine LRl.outA ?_ | refine LRl.whenA ?_ | refine LRl.pickA ?_)
    refine LWp.gen (fun S' => S.le S' ∧ S'.box b3 = some (hdL h) ∧ S'.box b4 = some (ndL { n with keys := n.keys.take m, vals := n.vals.take m }) ∧ S'.box b5 = some (ndL (n.upL m))) ⟨(hle.setBox s5 _).setBox s5 _, (box_set_ne _ _ n3_5).trans ((box_set_ne _ _ n3_5).trans k3), (box_set_ne _ _ n4_5).trans ((box_set_ne _ _ n4_5).trans k4), (box_set _ _ _).trans rfl⟩ ?_
    clear hle k2 k3 k4 k5
    rintro S7 ⟨hle, k3, k4, k5⟩
    repeat (first | refine LOps.nil ?_ | refine andThen_normal ?_ | refine andThen_exit ?_ | refine andThen_ret ?_ | refine inBlock_normal ?_ | refine inBlock_ret ?_ | refine inBlock_here ?_ | refine inBlock_out rfl ?_ | refine LWp.seq ?_ | refine LWp.region ?_ | refine LWp.block ?_ | refine LWp.exit ?_ | refine LWp.ret ?_ | refine LWp.skip ?_ | refine LOps.valA ?_ | refine LOps.outA ?_ | refine LOps.whenA ?_ | refine LOps.pickA ?_ | refine LOps.storeA ?_)
    refine LWp.drawX (fun b => b = b4) [0, 1, 2, 3, 4, 5, 6, 7] (by rw [hP]; rfl) rfl ?_
    repeat (first | refine LRl.valH (LVal.load hD rfl rfl k3 rfl rfl) ?_ (fun _ hS => LVal.load hD rfl rfl (hS.box _ _ k3 (by first | exact id | (intro hx; rcases hx with hx | hx <;> omega) | (intro hx; have hx2 : _ = _ := hx; omega) | (intro hx; exact absurd hx.1 (by decide)))) rfl rfl) | refine LRl.nil ?_ | refine LRl.valA ?_ | refine LRl.outA ?_ | refine LRl.whenA ?_ | refine LRl.pickA ?_)
    refine LRl.actA0 (LDo.store hD rfl rfl (k4) rfl rfl rfl rfl).toAct rfl rfl rfl (by
      rintro _ _ ⟨rfl, rfl⟩ q hq
      rcases (by omega : q = 0 ∨ q = 1 ∨ q = 2) with h | h | h <;> subst h <;> first | exact .inr rfl | exact .inl (LS.leX.setBox (by omega) _)) ?_
    rintro _ _ ⟨rfl, rfl⟩
    repeat (first | refine LRl.nil ?_ | refine LRl.valA ?_ | refine LRl.outA ?_ | refine LRl.whenA ?_ | refine LRl.pickA ?_)
    refine LRl.actA0 (LDo.store hD rfl rfl ((box_set _ _ _)) rfl rfl rfl rfl).toAct rfl rfl rfl (by
      rintro _ _ ⟨rfl, rfl⟩ q hq
      rcases (by omega : q = 0 ∨ q = 1 ∨ q = 2 ∨ q = 3 ∨ q = 4) with h | h | h | h | h <;> subst h <;> first | exact .inr rfl | exact .inl (LS.leX.setBox (by omega) _)) ?_
    rintro _ _ ⟨rfl, rfl⟩
    repeat (first | refine LRl.nil ?_ | refine LRl.valA ?_ | refine LRl.outA ?_ | refine LRl.whenA ?_ | refine LRl.pickA ?_)
    refine LRl.actA0 (LDo.store hD rfl rfl ((box_set _ _ _)) rfl rfl rfl rfl).toAct rfl rfl rfl (by
      rintro _ _ ⟨rfl, rfl⟩ q hq
      rcases (by omega : q = 0 ∨ q = 1 ∨ q = 2 ∨ q = 3 ∨ q = 4 ∨ q = 5 ∨ q = 6) with h | h | h | h | h | h | h <;> subst h <;> first | exact .inr rfl | exact .inl (LS.leX.setBox (by omega) _)) ?_
    rintro _ _ ⟨rfl, rfl⟩
    repeat (first | refine LRl.nil ?_ | refine LRl.valA ?_ | refine LRl.outA ?_ | refine LRl.whenA ?_ | refine LRl.pickA ?_)
    refine LWp.gen (fun S' => S.le S' ∧ S'.box b4 = some (ndL (n.lowL m h)) ∧ S'.box b5 = some (ndL (n.upL m))) ⟨((hle.setBox s4 _).setBox s4 _).setBox s4 _, (box_set _ _ _).trans (by rw [← hsep]; rfl), (box_set_ne _ _ m5_4).trans ((box_set_ne _ _ m5_4).trans ((box_set_ne _ _ m5_4).trans k5))⟩ ?_
    clear hle k3 k4 k5
    rintro S12 ⟨hle, k4, k5⟩
    refine LWp.seq ?_
    refine LWp.drawF (fun q b => (q = 1 ∧ b = b4) ∨ (q = 2 ∧ (b = b4 ∨ b = b5))) [0, 1, 2, 3, 4, 5] (by rw [hP]; rfl) rfl ?_
    repeat (first | refine LRl.valH (LVal.load hD rfl rfl k4 rfl rfl) ?_ (fun _ hS => LVal.load hD rfl rfl (hS.box _ _ k4 (by first | exact id | (intro hx; rcases hx with hx | hx <;> omega) | (intro hx; have hx2 : _ = _ := hx; omega) | (intro hx; exact absurd hx.1 (by decide)))) rfl rfl) | refine LRl.valH (LVal.load hD rfl rfl k5 rfl rfl) ?_ (fun _ hS => LVal.load hD rfl rfl (hS.box _ _ k5 (by first | exact id | (intro hx; rcases hx with hx | hx <;> omega) | (intro hx; have hx2 : _ = _ := hx; omega) | (intro hx; exact absurd hx.1 (by decide)))) rfl rfl) | refine LRl.nil ?_ | refine LRl.valA ?_ | refine LRl.outA ?_ | refine LRl.whenA ?_ | refine LRl.pickA ?_)
    refine LRl.actA0 (LDo.store hD rfl rfl (k4) rfl rfl rfl rfl).toAct rfl rfl rfl (by
      rintro _ _ ⟨rfl, rfl⟩ q hq
      rcases (by omega : q = 0 ∨ q = 1 ∨ q = 2) with h | h | h <;> subst h <;> first | exact .inr rfl | exact .inl (LS.leX.setBox (by omega) _)) ?_
    rintro _ _ ⟨rfl, rfl⟩
    refine LRl.actA0 (LDo.store hD rfl rfl ((box_set_ne _ _ m5_4).trans k5) rfl rfl rfl rfl).toAct rfl rfl rfl (by
      rintro _ _ ⟨rfl, rfl⟩ q hq
      rcases (by omega : q = 0 ∨ q = 1 ∨ q = 2 ∨ q = 3) with h | h | h | h <;> subst h <;> first | exact .inr rfl | exact .inl (LS.leX.setBox (by omega) _)) ?_
    rintro _ _ ⟨rfl, rfl⟩
    repeat (first | refine LRl.nil ?_ | refine LRl.valA ?_ | refine LRl.outA ?_ | refine LRl.whenA ?_ | refine LRl.pickA ?_)
    repeat (first | refine LOps.nil ?_ | refine andThen_normal ?_ | refine andThen_exit ?_ | refine andThen_ret ?_ | refine inBlock_normal ?_ | refine inBlock_ret ?_ | refine inBlock_here ?_ | refine inBlock_out rfl ?_ | refine LWp.seq ?_ | refine LWp.region ?_ | refine LWp.block ?_ | refine LWp.exit ?_ | refine LWp.ret ?_ | refine LWp.skip ?_ | refine LOps.valA ?_ | refine LOps.outA ?_ | refine LOps.whenA ?_ | refine LOps.pickA ?_ | refine LOps.storeA ?_)
    rw [hsep]
    exact ⟨_, splitRes hP rfl rfl ((box_set_ne _ _ n4_5).trans (box_set _ _ _)) rfl (box_set _ _ _) rfl, rfl, (hle.setBox s4 _).setBox s5 _⟩
  have hl : n.leaf = false := hl
  obtain ⟨hvl, hkd⟩ := rightN_inner hr hl
  rw [if_neg (by rw [hl]; decide)]
  repeat (first | refine LOps.valH (LVal.to (LVal.add64 rfl rfl rfl (by omega)) (r' := .one (iv ((m + 1 : Nat) : Int))) (by exact congrArg (fun x => TV.one (iv x)) (by omega))) ?_ | refine LOps.valH (LVal.takeMap3 (n := m + 1) hD rfl rfl rfl rfl rfl rfl rfl (by show m + 1 ≤ n.kids.length; omega) rfl (fun _ _ => rfl)) ?_ | refine LOps.nil ?_ | refine andThen_normal ?_ | refine andThen_exit ?_ | refine andThen_ret ?_ | refine inBlock_normal ?_ | refine inBlock_ret ?_ | refine inBlock_here ?_ | refine inBlock_out rfl ?_ | refine LWp.seq ?_ | refine LWp.region ?_ | refine LWp.block ?_ | refine LWp.exit ?_ | refine LWp.ret ?_ | refine LWp.skip ?_ | refine LOps.valA ?_ | refine LOps.outA ?_ | refine LOps.whenA ?_ | refine LOps.pickA ?_)
  refine LOps.storeA (b := b4) (off := 3) (cs := ndL { n with keys := n.keys.take m }) (l := [.sl .sh ((n.kids.take (m + 1)).map hdL)]) ?_
  refine LOps.gen (fun S' => S.le S' ∧ S'.box b2 = some (ndL n) ∧ S'.box b3 = some (hdL h) ∧ S'.box b4 = some (ndL { n with keys := n.keys.take m, kids := n.kids.take (m + 1) }) ∧ S'.box b5 = some (ndL n)) ⟨hle.setBox s4 _, (box_set_ne _ _ n2_4).trans k2, (box_set_ne _ _ n3_4).trans k3, (box_set _ _ _).trans (congrArg some (rfl)), (box_set_ne _ _ m5_4).trans k5⟩ ?_
  clear hle k2 k3 k4 k5
  rintro Ss ⟨hle, k2, k3, k4, k5⟩
  refine LOps.nil ?_
  refine andThen_normal ?_
  refine LWp.drawF (fun q b => (q = 7 ∨ q = 8 ∨ q = 9) ∧ b = b5) [0, 1, 2, 3, 4, 5, 6, 7, 8, 9, 10, 11, 12, 13] (by rw [hP]; rfl) rfl ?_
  repeat (first | refine LRl.valH (LVal.load hD rfl rfl k5 rfl rfl) ?_ (fun _ hS => LVal.load hD rfl rfl (hS.box _ _ k5 (by first | exact id | (intro hx; rcases hx with hx | hx <;> omega) | (intro hx; have hx2 : _ = _ := hx; omega) | (intro hx; exact absurd hx.1 (by decide)))) rfl rfl) | refine LRl.val (fun _ _ => LVal.to (LVal.add64 rfl rfl rfl (by omega)) (r' := .one (iv ((m + 1 : Nat) : Int))) (by exact congrArg (fun x => TV.one (iv x)) (by omega))) rfl rfl rfl ?_ | refine LRl.val (fun _ _ => LVal.dropMap (m := m + 1) hD rfl rfl rfl rfl rfl rfl (by omega) rfl (fun _ _ => rfl)) rfl rfl rfl ?_ | refine LRl.nil ?_ | refine LRl.valA ?_ | refine LRl.outA ?_ | refine LRl.whenA ?_ | refine LRl.pickA ?_)
  refine LRl.actA0 (LDo.store hD rfl rfl (k5) rfl rfl rfl rfl).toAct rfl rfl rfl (by
    rintro _ _ ⟨rfl, rfl⟩ q hq
    rcases (by omega : q = 0 ∨ q = 1 ∨ q = 2 ∨ q = 3 ∨ q = 4 ∨ q = 5 ∨ q = 6 ∨ q = 7 ∨ q = 8 ∨ q = 9 ∨ q = 10) with h | h | h | h | h | h | h | h | h | h | h <;> subst h <;> first | exact .inr rfl | exact .inl (LS.leX.setBox (by omega) _)) ?_
  rintro _ _ ⟨rfl, rfl⟩
  repeat (first | refine LRl.nil ?_ | refine LRl.valA ?_ | refine LRl.outA ?_ | refine LRl.whenA ?_ | refine LRl.pickA ?_)
  refine LRl.actA0 (LDo.store hD rfl rfl ((box_set _ _ _)) rfl rfl rfl rfl).toAct rfl rfl rfl (by
    rintro _ _ ⟨rfl, rfl⟩ q hq
    rcases (by omega : q = 0 ∨ q = 1 ∨ q = 2 ∨ q = 3 ∨ q = 4 ∨ q = 5 ∨ q = 6 ∨ q = 7 ∨ q = 8 ∨ q = 9 ∨ q = 10 ∨ q = 11 ∨ q = 12) with h | h | h | h | h | h | h | h | h | h | h | h | h <;> subst h <;> first | exact .inr rfl | exact .inl (LS.leX.setBox (by omega) _)) ?_
  rintro _ _ ⟨rfl, rfl⟩
  repeat (first | refine LRl.nil ?_ | refine LRl.valA ?_ | refine LRl.outA ?_ | refine LRl.whenA ?_ | refine LRl.pickA ?_)
  refine LWp.gen (fun S' => S.le S' ∧ S'.box b3 = some (hdL h) ∧ S'.box b4 = some (ndL { n with keys := n.keys.take m, kids := n.kids.take (m + 1) }) ∧ S'.box b5 = some (ndL (n.upI m))) ⟨(hle.setBox s5 _).setBox s5 _, (box_set_ne _ _ n3_5).trans ((box_set_ne _ _ n3_5).trans k3), (box_set_ne _ _ n4_5).trans ((box_set_ne _ _ n4_5).trans k4), (box_set _ _ _).trans rfl⟩ ?_
  clear hle k2 k3 k4 k5
  rintro S7 ⟨hle, k3, k4, k5⟩
  repeat (first | refine LOps.nil ?_ | refine andThen_normal ?_ | refine andThen_exit ?_ | refine andThen_ret ?_ | refine inBlock_normal ?_ | refine inBlock_ret ?_ | refine inBlock_here ?_ | refine inBlock_out rfl ?_ | refine LWp.seq ?_ | refine LWp.region ?_ | refine LWp.block ?_ | refine LWp.exit ?_ | refine LWp.ret ?_ | refine LWp.skip ?_ | refine LOps.valA ?_ | refine LOps.outA ?_ | refine LOps.whenA ?_ | refine LOps.pickA ?_ | refine LOps.storeA ?_)
  refine LWp.drawX (fun b => b = b4) [0, 1, 2, 3, 4, 5, 6, 7] (by rw [hP]; rfl) rfl ?_
  repeat (first | refine LRl.valH (LVal.load hD rfl rfl k3 rfl rfl) ?_ (fun _ hS => LVal.load hD rfl rfl (hS.box _ _ k3 (by first | exact id | (intro hx; rcases hx with hx | hx <;> omega) | (intro hx; have hx2 : _ = _ := hx; omega) | (intro hx; exact absurd hx.1 (by decide)))) rfl rfl) | refine LRl.nil ?_ | refine LRl.valA ?_ | refine LRl.outA ?_ | refine LRl.whenA ?_ | refine LRl.pickA ?_)
  refine LRl.actA0 (LDo.store hD rfl rfl (k4) rfl rfl rfl rfl).toAct rfl rfl rfl (by
    rintro _ _ ⟨rfl, rfl⟩ q hq
    rcases (by omega : q = 0 ∨ q = 1 ∨ q = 2) with h | h | h <;> subst h <;> first | exact .inr rfl | exact .inl (LS.leX.setBox (by omega) _)) ?_
  rintro _ _ ⟨rfl, rfl⟩
  repeat (first | refine LRl.nil ?_ | refine LRl.valA ?_ | refine LRl.outA ?_ | refine LRl.whenA ?_ | refine LRl.pickA ?_)
  refine LRl.actA0 (LDo.store hD rfl rfl ((box_set _ _ _)) rfl rfl rfl rfl).toAct rfl rfl rfl (by
    rintro _ _ ⟨rfl, rfl⟩ q hq
    rcases (by omega : q = 0 ∨ q = 1 ∨ q = 2 ∨ q = 3 ∨ q = 4) with h | h | h | h | h <;> subst h <;> first | exact .inr rfl | exact .inl (LS.leX.setBox (by omega) _)) ?_
  rintro _ _ ⟨rfl, rfl⟩
  repeat (first | refine LRl.nil ?_ | refine LRl.valA ?_ | refine LRl.outA ?_ | refine LRl.whenA ?_ | refine LRl.pickA ?_)
  refine LRl.actA0 (LDo.store hD rfl rfl ((box_set _ _ _)) rfl rfl rfl rfl).toAct rfl rfl rfl (by
    rintro _ _ ⟨rfl, rfl⟩ q hq
    rcases (by omega : q = 0 ∨ q = 1 ∨ q = 2 ∨ q = 3 ∨ q = 4 ∨ q = 5 ∨ q = 6) with h | h | h | h | h | h | h <;> subst h <;> first | exact .inr rfl | exact .inl (LS.leX.setBox (by omega) _)) ?_
  rintro _ _ ⟨rfl, rfl⟩
  repeat (first | refine LRl.nil ?_ | refine LRl.valA ?_ | refine LRl.outA ?_ | refine LRl.whenA ?_ | refine LRl.pickA ?_)
  refine LWp.gen (fun S' => S.le S' ∧ S'.box b4 = some (ndL (n.lowI m h)) ∧ S'.box b5 = some (ndL (n.upI m))) ⟨((hle.setBox s4 _).setBox s4 _).setBox s4 _, (box_set _ _ _).trans (by rw [← hsep]; rfl), (box_set_ne _ _ m5_4).trans ((box_set_ne _ _ m5_4).trans ((box_set_ne _ _ m5_4).trans k5))⟩ ?_
  clear hle k3 k4 k5
  rintro S12 ⟨hle, k4, k5⟩
  refine LWp.seq ?_
  refine LWp.drawF (fun q b => (q = 1 ∧ b = b4) ∨ (q = 2 ∧ (b = b4 ∨ b = b5))) [0, 1, 2, 3, 4, 5] (by rw [hP]; rfl) rfl ?_
  repeat (first | refine LRl.valH (LVal.load hD rfl rfl k4 rfl rfl) ?_ (fun _ hS => LVal.load hD rfl rfl (hS.box _ _ k4 (by first | exact id | (intro hx; rcases hx with hx | hx <;> omega) | (intro hx; have hx2 : _ = _ := hx; omega) | (intro hx; exact absurd hx.1 (by decide)))) rfl rfl) | refine LRl.valH (LVal.load hD rfl rfl k5 rfl rfl) ?_ (fun _ hS => LVal.load hD rfl rfl (hS.box _ _ k5 (by first | exact id | (intro hx; rcases hx with hx | hx <;> omega) | (intro hx; have hx2 : _ = _ := hx; omega) | (intro hx; exact absurd hx.1 (by decide)))) rfl rfl) | refine LRl.nil ?_ | refine LRl.valA ?_ | refine LRl.outA ?_ | refine LRl.whenA ?_ | refine LRl.pickA ?_)
  refine LRl.actA0 (LDo.store hD rfl rfl (k4) rfl rfl rfl rfl).toAct rfl rfl rfl (by
    rintro _ _ ⟨rfl, rfl⟩ q hq
    rcases (by omega : q = 0 ∨ q = 1 ∨ q = 2) with h | h | h <;> subst h <;> first | exact .inr rfl | exact .inl (LS.leX.setBox (by omega) _)) ?_
  rintro _ _ ⟨rfl, rfl⟩
  refine LRl.actA0 (LDo.store hD rfl rfl ((box_set_ne _ _ m5_4).trans k5) rfl rfl rfl rfl).toAct rfl rfl rfl (by
    rintro _ _ ⟨rfl, rfl⟩ q hq
    rcases (by omega : q = 0 ∨ q = 1 ∨ q = 2 ∨ q = 3) with h | h | h | h <;> subst h <;> first | exact .inr rfl | exact .inl (LS.leX.setBox (by omega) _)) ?_
  rintro _ _ ⟨rfl, rfl⟩
  repeat (first | refine LRl.nil ?_ | refine LRl.valA ?_ | refine LRl.outA ?_ | refine LRl.whenA ?_ | refine LRl.pickA ?_)
  repeat (first | refine LOps.nil ?_ | refine andThen_normal ?_ | refine andThen_exit ?_ | refine andThen_ret ?_ | refine inBlock_normal ?_ | refine inBlock_ret ?_ | refine inBlock_here ?_ | refine inBlock_out rfl ?_ | refine LWp.seq ?_ | refine LWp.region ?_ | refine LWp.block ?_ | refine LWp.exit ?_ | refine LWp.ret ?_ | refine LWp.skip ?_ | refine LOps.valA ?_ | refine LOps.outA ?_ | refine LOps.whenA ?_ | refine LOps.pickA ?_ | refine LOps.storeA ?_)
  rw [hsep]
  exact ⟨_, splitRes hP rfl rfl ((box_set_ne _ _ n4_5).trans (box_set _ _ _)) rfl (box_set _ _ _) rfl, rfl, (hle.setBox s4 _).setBox s5 _⟩
end Go.Proofs.Ytjcpcgneghanfaa.LF
