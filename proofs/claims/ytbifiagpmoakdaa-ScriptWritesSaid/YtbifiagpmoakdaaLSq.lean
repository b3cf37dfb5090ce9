/- The program's same; Encode. -/
import Derived.Test.YtbifiagpmoakdaaLSk
import Derived.Test.YtbifiagpmoakdaaLSo
set_option linter.unusedVariables false
set_option linter.unusedSimpArgs false
namespace Go.Proofs.Ytbifiagpmoakdaa.LF
open Go.RowKit
set_option linter.unusedVariables false

set_option maxHeartbeats 8000000 in
theorem equal_F {G : Ctx} (hP : G.P = Try.prog) (a b : List Wr) (ha : a.length < 10000000) : LFun G 31 [.one (.sl .sh (a.map wrL)), .one (.sl .sh (b.map wrL))] (.one (bv (decide (a = b)))) := LFun.of fun S => by
  have hD : TabOK G.P D := by rw [hP]; exact hD0
  have ea : EqTy G.P D 51 := by rw [hP]; exact eqWr
  have hma : (a.map wrL).length = a.length := List.length_map ..
  have hmb : (b.map wrL).length = b.length := List.length_map ..
  refine LCalls.enter (fn := Try.f31) (by rw [hP]; exact Try.func31) rfl rfl ?_
  repeat (first | refine LOps.nil ?_ | refine andThen_normal ?_ | refine andThen_exit ?_ | refine andThen_ret ?_ | refine inBlock_normal ?_ | refine inBlock_ret ?_ | refine inBlock_here ?_ | refine inBlock_out rfl ?_ | refine LWp.seq ?_ | refine LWp.region ?_ | refine LWp.block ?_ | refine LWp.exit ?_ | refine LWp.ret ?_ | refine LWp.skip ?_ | refine LOps.valA ?_ | refine LOps.outA ?_ | refine LOps.whenA ?_ | refine LOps.pickA ?_ | refine LOps.storeA ?_)
  refine LWp.cond rfl (fun h => ?_) (fun h => ?_)
  · have hz : decide (a = b) = false := by
      rw [decide_eq_false_iff_not]
      rintro rfl
      simp at h
    rw [hz]
    repeat (first | refine LOps.nil ?_ | refine andThen_normal ?_ | refine andThen_exit ?_ | refine andThen_ret ?_ | refine inBlock_normal ?_ | refine inBlock_ret ?_ | refine inBlock_here ?_ | refine inBlock_out rfl ?_ | refine LWp.seq ?_ | refine LWp.region ?_ | refine LWp.block ?_ | refine LWp.exit ?_ | refine LWp.ret ?_ | refine LWp.skip ?_ | refine LOps.valA ?_ | refine LOps.outA ?_ | refine LOps.whenA ?_ | refine LOps.pickA ?_ | refine LOps.storeA ?_)
    exact ⟨_, LRes.one rfl, rfl, .refl _⟩
  have hlen : a.length = b.length := by simp at h; omega
  clear h
  repeat (first | refine LOps.nil ?_ | refine andThen_normal ?_ | refine andThen_exit ?_ | refine andThen_ret ?_ | refine inBlock_normal ?_ | refine inBlock_ret ?_ | refine inBlock_here ?_ | refine inBlock_out rfl ?_ | refine LWp.seq ?_ | refine LWp.region ?_ | refine LWp.block ?_ | refine LWp.exit ?_ | refine LWp.ret ?_ | refine LWp.skip ?_ | refine LOps.valA ?_ | refine LOps.outA ?_ | refine LOps.whenA ?_ | refine LOps.pickA ?_ | refine LOps.storeA ?_)
  refine LWp.loop (fun m T S' => S' = S ∧ ∃ T' j, j ≤ a.length ∧ m = a.length - j ∧ a.take j = b.take j ∧ T = over T' [(0, .one (.sl .sh (a.map wrL))), (1, .one (.sl .sh (b.map wrL))), (12, .one (iv (a.length : Nat))), (13, .one (iv (j : Nat)))]) a.length ?_ ?_
  · exact ⟨rfl, _, 0, by omega, by omega, by simp, holds.over ⟨rfl, rfl, by rw [← hma]; rfl, rfl, trivial⟩⟩
  rintro m T S' ⟨rfl, T', j, hj, rfl, hs, rfl⟩
  repeat (first | refine LOps.nil ?_ | refine andThen_normal ?_ | refine andThen_exit ?_ | refine andThen_ret ?_ | refine inBlock_normal ?_ | refine inBlock_ret ?_ | refine inBlock_here ?_ | refine inBlock_out rfl ?_ | refine LWp.seq ?_ | refine LWp.region ?_ | refine LWp.block ?_ | refine LWp.exit ?_ | refine LWp.ret ?_ | refine LWp.skip ?_ | refine LOps.valA ?_ | refine LOps.outA ?_ | refine LOps.whenA ?_ | refine LOps.pickA ?_ | refine LOps.storeA ?_)
  refine LWp.cond rfl (fun h => ?_) (fun h => ?_)
  · have hlt : j < a.length := by simp at h; omega
    have hltb : j < b.length := by omega
    repeat (first | refine LOps.nil ?_ | refine andThen_normal ?_ | refine andThen_exit ?_ | refine andThen_ret ?_ | refine inBlock_normal ?_ | refine inBlock_ret ?_ | refine inBlock_here ?_ | refine inBlock_out rfl ?_ | refine LWp.seq ?_ | refine LWp.region ?_ | refine LWp.block ?_ | refine LWp.exit ?_ | refine LWp.ret ?_ | refine LWp.skip ?_ | refine LOps.valA ?_ | refine LOps.outA ?_ | refine LOps.whenA ?_ | refine LOps.pickA ?_ | refine LOps.storeA ?_)
    refine LWp.drawL [0, 1, 2, 3, 4, 5, 6, 7, 8] (by rw [hP]; rfl) rfl ?_
    repeat (first | refine LRl.nil ?_ | refine LRl.valA ?_ | refine LRl.outA ?_ | refine LRl.whenA ?_ | refine LRl.pickA ?_)
    repeat (first | refine LOps.nil ?_ | refine andThen_normal ?_ | refine andThen_exit ?_ | refine andThen_ret ?_ | refine inBlock_normal ?_ | refine inBlock_ret ?_ | refine inBlock_here ?_ | refine inBlock_out rfl ?_ | refine LWp.seq ?_ | refine LWp.region ?_ | refine LWp.block ?_ | refine LWp.exit ?_ | refine LWp.ret ?_ | refine LWp.skip ?_ | refine LOps.valA ?_ | refine LOps.outA ?_ | refine LOps.whenA ?_ | refine LOps.pickA ?_ | refine LOps.storeA ?_)
    refine LWp.cond rfl (fun h => ?_) (fun h => ?_)
    · repeat (first | refine LOps.nil ?_ | refine andThen_normal ?_ | refine andThen_exit ?_ | refine andThen_ret ?_ | refine inBlock_normal ?_ | refine inBlock_ret ?_ | refine inBlock_here ?_ | refine inBlock_out rfl ?_ | refine LWp.seq ?_ | refine LWp.region ?_ | refine LWp.block ?_ | refine LWp.exit ?_ | refine LWp.ret ?_ | refine LWp.skip ?_ | refine LOps.valA ?_ | refine LOps.outA ?_ | refine LOps.whenA ?_ | refine LOps.pickA ?_ | refine LOps.storeA ?_)
      refine ⟨_, LRes.one rfl, ?_, .refl _⟩
      have : a[j] ≠ b[j] := fun e => by rw [wr_eq, e] at h; simp at h
      have : a ≠ b := fun e => this (by simp [e])
      simp [this]; rfl
    · repeat (first | refine LOps.nil ?_ | refine andThen_normal ?_ | refine andThen_exit ?_ | refine andThen_ret ?_ | refine inBlock_normal ?_ | refine inBlock_ret ?_ | refine inBlock_here ?_ | refine inBlock_out rfl ?_ | refine LWp.seq ?_ | refine LWp.region ?_ | refine LWp.block ?_ | refine LWp.exit ?_ | refine LWp.ret ?_ | refine LWp.skip ?_ | refine LOps.valA ?_ | refine LOps.outA ?_ | refine LOps.whenA ?_ | refine LOps.pickA ?_ | refine LOps.storeA ?_)
      refine ⟨a.length - (j + 1), by omega, rfl, _, j + 1, by omega, rfl, ?_, holds.over ⟨rfl, rfl, rfl, rfl, trivial⟩⟩
      have : a[j] = b[j] := by rw [wr_eq] at h; simpa using h
      rw [List.take_succ_eq_append_getElem hlt, List.take_succ_eq_append_getElem hltb, hs, this]
  · have hge : a.length ≤ j := by simp at h; omega
    have hab : a = b := by rw [List.take_of_length_le hge, List.take_of_length_le (by omega)] at hs; exact hs
    repeat (first | refine LOps.nil ?_ | refine andThen_normal ?_ | refine andThen_exit ?_ | refine andThen_ret ?_ | refine inBlock_normal ?_ | refine inBlock_ret ?_ | refine inBlock_here ?_ | refine inBlock_out rfl ?_ | refine LWp.seq ?_ | refine LWp.region ?_ | refine LWp.block ?_ | refine LWp.exit ?_ | refine LWp.ret ?_ | refine LWp.skip ?_ | refine LOps.valA ?_ | refine LOps.outA ?_ | refine LOps.whenA ?_ | refine LOps.pickA ?_ | refine LOps.storeA ?_)
    refine ⟨_, LRes.one rfl, ?_, .refl _⟩
    rw [decide_eq_true hab]; rfl

set_option maxHeartbeats 8000000 in
theorem psame_F {G : Ctx} (hP : G.P = Try.prog) (x y : En) (hwx : x.op.writes.length < 10000000) : LFun G 21 [.agg (enL x), .agg (enL y)] (.one (bv (decide (x = y)))) := LFun.of fun S => by
  have hD : TabOK G.P D := by rw [hP]; exact hD0
  have heq := equal_F hP x.op.writes y.op.writes hwx
  refine LCalls.enter (fn := Try.f21) (by rw [hP]; exact Try.func21) rfl rfl ?_
  repeat (first | refine LOps.nil ?_ | refine andThen_normal ?_ | refine andThen_exit ?_ | refine andThen_ret ?_ | refine inBlock_normal ?_ | refine inBlock_ret ?_ | refine inBlock_here ?_ | refine inBlock_out rfl ?_ | refine LWp.seq ?_ | refine LWp.region ?_ | refine LWp.block ?_ | refine LWp.exit ?_ | refine LWp.ret ?_ | refine LWp.skip ?_ | refine LOps.valA ?_ | refine LOps.outA ?_ | refine LOps.whenA ?_ | refine LOps.pickA ?_ | refine LOps.storeA ?_)
  refine LOps.do (LDo.box rfl rfl) rfl rfl rfl ?_
  rintro _ _ ⟨b2, hb2, rfl, rfl⟩
  repeat (first | refine LOps.nil ?_ | refine andThen_normal ?_ | refine andThen_exit ?_ | refine andThen_ret ?_ | refine inBlock_normal ?_ | refine inBlock_ret ?_ | refine inBlock_here ?_ | refine inBlock_out rfl ?_ | refine LWp.seq ?_ | refine LWp.region ?_ | refine LWp.block ?_ | refine LWp.exit ?_ | refine LWp.ret ?_ | refine LWp.skip ?_ | refine LOps.valA ?_ | refine LOps.outA ?_ | refine LOps.whenA ?_ | refine LOps.pickA ?_ | refine LOps.storeA ?_)
  refine LOps.do (LDo.box rfl rfl) rfl rfl rfl ?_
  rintro _ _ ⟨b3, hb3, rfl, rfl⟩
  have n23 := fresh_ne hb3 (box_new S b2 (enL x))
  have hle : S.le ((S.newBox b2 (enL x)).newBox b3 (enL y)) := (LS.le.newBox (.refl S) hb2 (enL x)).newBox hb3 (enL y)
  have k2 : ((S.newBox b2 (enL x)).newBox b3 (enL y)).box b2 = some (enL x) := (box_new_ne _ _ n23).trans (box_new _ _ _)
  have k3 : ((S.newBox b2 (enL x)).newBox b3 (enL y)).box b3 = some (enL y) := box_new _ _ _
  generalize (S.newBox b2 (enL x)).newBox b3 (enL y) = S1 at hle k2 k3
  clear hb2 hb3
  refine LOps.valA ?_
  refine LOps.nil ?_
  refine andThen_normal ?_
  refine LWp.seq (.join (fun T' S' => ∃ (b5 b6 : Nat) (T'' : Nat → TV), T' = over T'' [(2, ptr b2), (3, ptr b3), (5, ptr b5), (6, ptr b6)] ∧ S.le S' ∧ S'.box b2 = some (enL x) ∧ S'.box b3 = some (enL y) ∧ S'.box b5 = some (opL x.op) ∧ S'.box b6 = some (opL y.op)) ?_ ?_)
  · have hn2 : ¬ (fun b => b ≠ b2 ∧ b ≠ b3) b2 := fun h => h.1 rfl
    have hn3 : ¬ (fun b => b ≠ b2 ∧ b ≠ b3) b3 := fun h => h.2 rfl
    refine LWp.drawX (fun b => b ≠ b2 ∧ b ≠ b3) [0, 1, 2, 3, 4, 5, 6, 7] (by rw [hP]; rfl) rfl ?_
    repeat (first | refine LRl.nil ?_ | refine LRl.valA ?_ | refine LRl.outA ?_ | refine LRl.whenA ?_ | refine LRl.pickA ?_)
    refine LRl.alt [0, 1, 2, 3, 5, 4, 6, 7] rfl (LDo.alloc hD rfl rfl rfl) (LDo.alloc hD rfl rfl rfl) rfl rfl rfl rfl rfl rfl (by rintro _ _ ⟨b, hb, _, rfl⟩; exact .newBox hb _) (by rintro _ _ ⟨b, hb, _, rfl⟩; exact .newBox hb _) ?_ ?_
    · rintro _ _ ⟨b5, hb5, rfl, rfl⟩
      refine LRl.act (LDo.alloc hD rfl rfl rfl) rfl rfl rfl rfl (by rintro _ _ ⟨b, hb, _, rfl⟩; exact .inl (.newBox hb _)) ?_
      rintro _ _ ⟨b6, hb6, rfl, rfl⟩
      have n : b5 ≠ b6 := fresh_ne hb6 (box_new S1 b5 (lzero ti33))
      have sb5 := hle.none hb5
      have sb6 := (hle.newBox hb5 (lzero ti33)).none hb6
      have y2 : (S1.newBox b5 (lzero ti33)).box b2 = some (enL x) := (box_new_ne _ _ (fresh_ne hb5 k2)).trans k2
      have y3 : (S1.newBox b5 (lzero ti33)).box b3 = some (enL y) := (box_new_ne _ _ (fresh_ne hb5 k3)).trans k3
      have nb52 : b5 ≠ b2 := (fresh_ne hb5 k2).symm
      have nb53 : b5 ≠ b3 := (fresh_ne hb5 k3).symm
      have nb62 : b6 ≠ b2 := (fresh_ne hb6 y2).symm
      have nb63 : b6 ≠ b3 := (fresh_ne hb6 y3).symm
      have hb5' : ((S1.newBox b5 (lzero ti33)).newBox b6 (lzero ti33)).box b5 = some (lzero ti33) := (box_new_ne _ _ n).trans (box_new _ _ _)
      have hb6' : ((S1.newBox b5 (lzero ti33)).newBox b6 (lzero ti33)).box b6 = some (lzero ti33) := box_new _ _ _
      have x2 : ((S1.newBox b5 (lzero ti33)).newBox b6 (lzero ti33)).box b2 = some (enL x) := (box_new_ne _ _ nb62.symm).trans y2
      have x3 : ((S1.newBox b5 (lzero ti33)).newBox b6 (lzero ti33)).box b3 = some (enL y) := (box_new_ne _ _ nb63.symm).trans y3
      have n56 : b5 ≠ b6 := n
      refine LRl.act0 (LDo.store hD rfl rfl hb5' rfl rfl rfl rfl) rfl rfl rfl (by rintro _ _ ⟨_, rfl⟩; exact .inl (.setBox ⟨nb52, nb53⟩ _)) ?_
      rintro _ _ ⟨rfl, rfl⟩
      refine LRl.act0 (LDo.store hD rfl rfl ((box_set_ne _ _ n56.symm).trans hb6') rfl rfl rfl rfl) rfl rfl rfl (fun _ _ _ => .inr rfl) ?_
      rintro _ _ ⟨rfl, rfl⟩
      repeat (first | refine LRl.nil ?_ | refine LRl.valA ?_ | refine LRl.outA ?_ | refine LRl.whenA ?_ | refine LRl.pickA ?_)
      exact ⟨b5, b6, _, holds.over ⟨rfl, rfl, rfl, rfl, trivial⟩, (((hle.newBox hb5 _).newBox hb6 _).setBox sb5 _).setBox sb6 _, (box_set_ne _ _ nb62.symm).trans ((box_set_ne _ _ nb52.symm).trans x2), (box_set_ne _ _ nb63.symm).trans ((box_set_ne _ _ nb53.symm).trans x3), (box_set_ne _ _ n56).trans (box_set _ _ _), box_set _ _ _⟩
    · rintro _ _ ⟨b6, hb6, rfl, rfl⟩
      refine LRl.act (LDo.alloc hD rfl rfl rfl) rfl rfl rfl rfl (by rintro _ _ ⟨b, hb, _, rfl⟩; exact .inl (.newBox hb _)) ?_
      rintro _ _ ⟨b5, hb5, rfl, rfl⟩
      have n : b6 ≠ b5 := fresh_ne hb5 (box_new S1 b6 (lzero ti33))
      have sb6 := hle.none hb6
      have sb5 := (hle.newBox hb6 (lzero ti33)).none hb5
      have y2 : (S1.newBox b6 (lzero ti33)).box b2 = some (enL x) := (box_new_ne _ _ (fresh_ne hb6 k2)).trans k2
      have y3 : (S1.newBox b6 (lzero ti33)).box b3 = some (enL y) := (box_new_ne _ _ (fresh_ne hb6 k3)).trans k3
      have nb62 : b6 ≠ b2 := (fresh_ne hb6 k2).symm
      have nb63 : b6 ≠ b3 := (fresh_ne hb6 k3).symm
      have nb52 : b5 ≠ b2 := (fresh_ne hb5 y2).symm
      have nb53 : b5 ≠ b3 := (fresh_ne hb5 y3).symm
      have hb6' : ((S1.newBox b6 (lzero ti33)).newBox b5 (lzero ti33)).box b6 = some (lzero ti33) := (box_new_ne _ _ n).trans (box_new _ _ _)
      have hb5' : ((S1.newBox b6 (lzero ti33)).newBox b5 (lzero ti33)).box b5 = some (lzero ti33) := box_new _ _ _
      have x2 : ((S1.newBox b6 (lzero ti33)).newBox b5 (lzero ti33)).box b2 = some (enL x) := (box_new_ne _ _ nb52.symm).trans y2
      have x3 : ((S1.newBox b6 (lzero ti33)).newBox b5 (lzero ti33)).box b3 = some (enL y) := (box_new_ne _ _ nb53.symm).trans y3
      have n56 : b5 ≠ b6 := n.symm
      refine LRl.act0 (LDo.store hD rfl rfl hb5' rfl rfl rfl rfl) rfl rfl rfl (by rintro _ _ ⟨_, rfl⟩; exact .inl (.setBox ⟨nb52, nb53⟩ _)) ?_
      rintro _ _ ⟨rfl, rfl⟩
      refine LRl.act0 (LDo.store hD rfl rfl ((box_set_ne _ _ n56.symm).trans hb6') rfl rfl rfl rfl) rfl rfl rfl (fun _ _ _ => .inr rfl) ?_
      rintro _ _ ⟨rfl, rfl⟩
      repeat (first | refine LRl.nil ?_ | refine LRl.valA ?_ | refine LRl.outA ?_ | refine LRl.whenA ?_ | refine LRl.pickA ?_)
      exact ⟨b5, b6, _, holds.over ⟨rfl, rfl, rfl, rfl, trivial⟩, (((hle.newBox hb6 _).newBox hb5 _).setBox sb5 _).setBox sb6 _, (box_set_ne _ _ nb62.symm).trans ((box_set_ne _ _ nb52.symm).trans x2), (box_set_ne _ _ nb63.symm).trans ((box_set_ne _ _ nb53.symm).trans x3), (box_set_ne _ _ n56).trans (box_set _ _ _), box_set _ _ _⟩
  rintro T' S2 ⟨b5, b6, T'', rfl, hle, k2, k3, k5, k6⟩
  repeat (first | refine LOps.nil ?_ | refine andThen_normal ?_ | refine andThen_exit ?_ | refine andThen_ret ?_ | refine inBlock_normal ?_ | refine inBlock_ret ?_ | refine inBlock_here ?_ | refine inBlock_out rfl ?_ | refine LWp.seq ?_ | refine LWp.region ?_ | refine LWp.block ?_ | refine LWp.exit ?_ | refine LWp.ret ?_ | refine LWp.skip ?_ | refine LOps.val (LVal.call rfl rfl (by rw [hP]; exact Try.func31) rfl (by decide) (heq)) rfl rfl rfl ?_ | refine LOps.whenC (LVal.call rfl rfl (by rw [hP]; exact Try.func31) rfl (by decide) (heq)) ?_ | refine LOps.valA ?_ | refine LOps.outA ?_ | refine LOps.whenA ?_ | refine LOps.pickA ?_ | refine LOps.storeA ?_)
  refine ⟨_, LRes.one rfl, ?_, hle⟩
  have hz : ((((((((((x.kind == y.kind) && (x.a == y.a)) && (x.b == y.b)) && (x.op.kind == y.op.kind)) && decide (x.op.key = y.op.key)) && decide (x.op.val = y.op.val)) && decide (x.op.old = y.op.old)) && (x.op.had == y.op.had)) && (x.op.after == y.op.after)) && decide (x.op.writes = y.op.writes)) = decide (x = y) := by
    obtain ⟨a1, a2, a3, ⟨a4, a5, a6, a7, a8, a9, a10⟩⟩ := x
    obtain ⟨c1, c2, c3, ⟨c4, c5, c6, c7, c8, c9, c10⟩⟩ := y
    rw [Bool.eq_iff_iff]
    simp only [Bool.and_eq_true, beq_iff_eq, decide_eq_true_eq, En.mk.injEq, OpV.mk.injEq]
    constructor
    · rintro ⟨⟨⟨⟨⟨⟨⟨⟨⟨h1, h2⟩, h3⟩, h4⟩, h5⟩, h6⟩, h7⟩, h8⟩, h9⟩, h10⟩
      exact ⟨h1, h2, h3, h4, h5, h6, h7, h8, h9, h10⟩
    · rintro ⟨h1, h2, h3, h4, h5, h6, h7, h8, h9, h10⟩
      exact ⟨⟨⟨⟨⟨⟨⟨⟨⟨h1, h2⟩, h3⟩, h4⟩, h5⟩, h6⟩, h7⟩, h8⟩, h9⟩, h10⟩
  rw [← hz]; rfl
end Go.Proofs.Ytbifiagpmoakdaa.LF
