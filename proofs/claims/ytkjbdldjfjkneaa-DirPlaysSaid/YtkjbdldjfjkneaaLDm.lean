/- The directory's law: an act on both. (Printed by gen_one.py.) -/
import Derived.Test.YtkjbdldjfjkneaaLDg
import Derived.Test.YtkjbdldjfjkneaaLDw
set_option linter.unusedVariables false
set_option linter.unusedSimpArgs false
namespace Go.Proofs.Ytkjbdldjfjkneaa.LF
open Go.RowKit
set_option linter.unusedVariables false

theorem oneRes {G : Ctx} (hP : G.P = Try.prog) {n : Nat} {fn : Func} {T : Nat → TV} {S : LS} {t a u : Tmp} {b : Nat} {cs : List LV} {x y : TV} (hf : fn.results = #[.tmp t, .cell a 55, .tmp u]) (hx : T t = x) (ha : T a = ptr b) (hb : S.box b = some cs) (hl : Nat.beq cs.length 2 = true) (hy : T u = y) :
    LRes G n fn T S (.tup [x, .agg cs, y]) := by
  subst hx; subst hy
  obtain ⟨c1, c2, rfl⟩ : ∃ c1 c2, cs = [c1, c2] := by
    match cs, hl with
    | [c1, c2], _ => exact ⟨c1, c2, rfl⟩
  exact LRes.many (vs := [.tmp t, .cell a 55, .tmp u]) hf rfl (.cons (.tmp _) (.cons (.cell ha hb (hP ▸ tok55) rfl) (.cons (.tmp _) .nil)))

set_option maxHeartbeats 16000000 in
set_option maxRecDepth 10000 in
theorem one_F {G : Ctx} (hP : G.P = Try.prog) (d : Dv Int) (hok : Okd d) (a : ActV) (hk : 0 ≤ a.kind ∧ a.kind < 256) (ha : okAct a = true) (x : Int) (hx : 0 ≤ x ∧ x ≤ 100000) :
    LFun G 27 [dTI (some d), .agg (dLI d), .agg (actL a), .one (iv x)] (.tup [dTI (some (actD d a x)), .agg (dLI (actD d a x)), .one (bv true)]) := LFun.of fun S => by
  have hD : TabOK G.P D := by rw [hP]; exact hD0
  have hd := hok.wf
  have hdw := some_wf hd
  have hsm := hd.small
  have hsz : ∀ x ∈ d.los, x.size ≤ 1000 := fun x hx => Nat.le_trans (hok.short x hx) (by omega)
  obtain ⟨a1, a2, a3⟩ := okAct_at ha
  have a4 : ∀ x ∈ a.los, x.size ≤ 1000 := fun x hx => Nat.le_trans (a3 x hx) (by omega)
  have hma : (a.los.map sL).length = a.los.length := List.length_map ..
  refine LCalls.enter (fn := Try.f27) (by rw [hP]; exact Try.func27) rfl rfl ?_
  repeat (first | refine LOps.nil ?_ | refine andThen_normal ?_ | refine andThen_exit ?_ | refine andThen_ret ?_ | refine inBlock_normal ?_ | refine inBlock_ret ?_ | refine inBlock_here ?_ | refine inBlock_out rfl ?_ | refine LWp.seq ?_ | refine LWp.region ?_ | refine LWp.block ?_ | refine LWp.exit ?_ | refine LWp.ret ?_ | refine LWp.skip ?_ | refine LOps.valA ?_ | refine LOps.outA ?_ | refine LOps.whenA ?_ | refine LOps.pickA ?_ | refine LOps.storeA ?_)
  refine LOps.do (LDo.box rfl rfl) rfl rfl rfl ?_
  rintro _ _ ⟨b5, hb5, rfl, rfl⟩
  have hle := (LS.le.refl S).newBox hb5 (dLI d)
  have k5 := box_new S b5 (dLI d)
  generalize S.newBox b5 (dLI d) = S1 at hle k5
  repeat (first | refine LOps.nil ?_ | refine andThen_normal ?_ | refine andThen_exit ?_ | refine andThen_ret ?_ | refine inBlock_normal ?_ | refine inBlock_ret ?_ | refine inBlock_here ?_ | refine inBlock_out rfl ?_ | refine LWp.seq ?_ | refine LWp.region ?_ | refine LWp.block ?_ | refine LWp.exit ?_ | refine LWp.ret ?_ | refine LWp.skip ?_ | refine LOps.valA ?_ | refine LOps.outA ?_ | refine LOps.whenA ?_ | refine LOps.pickA ?_ | refine LOps.storeA ?_)
  refine LOps.do (LDo.box rfl rfl) rfl rfl rfl ?_
  rintro _ _ ⟨b6, hb6, rfl, rfl⟩
  have n56 := fresh_ne hb6 k5
  have hle := hle.newBox hb6 (actL a)
  have k5 := (box_new_ne _ (actL a) n56).trans k5
  have k6 := box_new S1 b6 (actL a)
  generalize S1.newBox b6 (actL a) = S2 at hle k5 k6
  repeat (first | refine LOps.nil ?_ | refine andThen_normal ?_ | refine andThen_exit ?_ | refine andThen_ret ?_ | refine inBlock_normal ?_ | refine inBlock_ret ?_ | refine inBlock_here ?_ | refine inBlock_out rfl ?_ | refine LWp.seq ?_ | refine LWp.region ?_ | refine LWp.block ?_ | refine LWp.exit ?_ | refine LWp.ret ?_ | refine LWp.skip ?_ | refine LOps.valA ?_ | refine LOps.outA ?_ | refine LOps.whenA ?_ | refine LOps.pickA ?_ | refine LOps.storeA ?_)
  refine LOps.do (LDo.alloc hD rfl rfl rfl) rfl rfl rfl ?_
  rintro _ _ ⟨b9, hb9, rfl, rfl⟩
  have n59 := fresh_ne hb9 k5
  have n69 := fresh_ne hb9 k6
  have s9 := hle.none hb9
  have hle := hle.newBox hb9 (ti55.zero.cells.toList.map constLV)
  have k5 := (box_new_ne _ (ti55.zero.cells.toList.map constLV) n59).trans k5
  have k6 := (box_new_ne _ (ti55.zero.cells.toList.map constLV) n69).trans k6
  have k9 := box_new S2 b9 (ti55.zero.cells.toList.map constLV)
  generalize S2.newBox b9 (ti55.zero.cells.toList.map constLV) = S3 at hle k5 k6 k9
  repeat (first | refine LOps.nil ?_ | refine andThen_normal ?_ | refine andThen_exit ?_ | refine andThen_ret ?_ | refine inBlock_normal ?_ | refine inBlock_ret ?_ | refine inBlock_here ?_ | refine inBlock_out rfl ?_ | refine LWp.seq ?_ | refine LWp.region ?_ | refine LWp.block ?_ | refine LWp.exit ?_ | refine LWp.ret ?_ | refine LWp.skip ?_ | refine LOps.valA ?_ | refine LOps.outA ?_ | refine LOps.whenA ?_ | refine LOps.pickA ?_ | refine LOps.storeA ?_)
  refine LOps.do (LDo.alloc hD rfl rfl rfl) rfl rfl rfl ?_
  rintro _ _ ⟨b14, hb14, rfl, rfl⟩
  have n5e := fresh_ne hb14 k5
  have n6e := fresh_ne hb14 k6
  have n9e := fresh_ne hb14 k9
  have s14 := hle.none hb14
  have hle := hle.newBox hb14 (ti55.zero.cells.toList.map constLV)
  have k5 := (box_new_ne _ (ti55.zero.cells.toList.map constLV) n5e).trans k5
  have k6 := (box_new_ne _ (ti55.zero.cells.toList.map constLV) n6e).trans k6
  have k9 := (box_new_ne _ (ti55.zero.cells.toList.map constLV) n9e).trans k9
  have k14 := box_new S3 b14 (ti55.zero.cells.toList.map constLV)
  generalize S3.newBox b14 (ti55.zero.cells.toList.map constLV) = S4 at hle k5 k6 k9 k14
  by_cases k0 : a.kind = 0
  · have e : againD (some d) a x = splitDI (some d) a.i a.at' x (x + 1) := by simp only [againD, if_pos k0]
    have hs := splitI_F hP (some d) hdw a.i a.at' x (x + 1)
    have hr : LFun G 43 _ (.tup [.agg (dLI ((splitDI (some d) a.i a.at' x (x + 1)).1.getD noDir)), .one (iv (splitDI (some d) a.i a.at' x (x + 1)).2)]) := refSplit_F hP d hd.len hsm hsz a.i a.at' (by omega) x (x + 1)
    rcases againD_cases hok ha x with ⟨er, h1, h2⟩ | ⟨d', h1, h2⟩
    · rw [actD_no h1 h2]
      rw [e] at h1
      rw [h1] at hs hr
      have hr : LFun G 43 _ (.tup [.agg (dLI noDir), .one (iv er)]) := hr
      have k5' := (box_set_ne S4 (splice (ti55.zero.cells.toList.map constLV) 0 (dLI noDir)) n5e).trans k5
      have k9' := (box_set_ne S4 (splice (ti55.zero.cells.toList.map constLV) 0 (dLI noDir)) n9e).trans k9
      have k14' := box_set S4 b14 (splice (ti55.zero.cells.toList.map constLV) 0 (dLI noDir))
      repeat (first | refine LOps.valH (LVal.call rfl rfl (by rw [hP]; exact Try.func30) rfl (by decide) (hs)) ?_ | refine LOps.valH (LVal.call rfl rfl (by rw [hP]; exact Try.func43) rfl (by decide) (hr)) ?_ | refine LWp.condT rfl ?_ | refine LWp.condF rfl ?_ | refine LOps.valH (LVal.to (LVal.binOp hD rfl rfl rfl rfl) (r' := .one (.v (.bool true))) (congrArg (fun b => TV.one (.v (.bool b))) (by first | exact decide_eq_true (by omega) | (rw [beq_iff_eq]; omega) | (rw [bne_iff_ne]; omega)))) ?_ | refine LOps.valH (LVal.to (LVal.binOp hD rfl rfl rfl rfl) (r' := .one (.v (.bool false))) (congrArg (fun b => TV.one (.v (.bool b))) (by first | exact decide_eq_false (by omega) | (rw [beq_eq_false_iff_ne]; omega) | (rw [bne_eq_false_iff_eq]; omega)))) ?_ | refine LOps.valW ?_ | refine LOps.nil ?_ | refine andThen_normal ?_ | refine andThen_exit ?_ | refine andThen_ret ?_ | refine inBlock_normal ?_ | refine inBlock_ret ?_ | refine inBlock_here ?_ | refine inBlock_out rfl ?_ | refine LWp.seq ?_ | refine LWp.region ?_ | refine LWp.block ?_ | refine LWp.exit ?_ | refine LWp.ret ?_ | refine LWp.skip ?_ | refine LOps.val (LVal.call rfl rfl (by rw [hP]; exact Try.func30) rfl (by decide) (hs)) rfl rfl rfl ?_ | refine LOps.val (LVal.call rfl rfl (by rw [hP]; exact Try.func43) rfl (by decide) (hr)) rfl rfl rfl ?_ | refine LOps.whenC (LVal.call rfl rfl (by rw [hP]; exact Try.func30) rfl (by decide) (hs)) ?_ | refine LOps.whenC (LVal.call rfl rfl (by rw [hP]; exact Try.func43) rfl (by decide) (hr)) ?_ | refine LOps.valA ?_ | refine LOps.outA ?_ | refine LOps.whenA ?_ | refine LOps.pickA ?_ | refine LOps.storeA ?_)
      clear k9 k5
      have k5 := k5'
      have k9 := k9'
      refine LWp.drawL [0, 1, 2, 3, 4] (by rw [hP]; rfl) rfl ?_
      repeat (first | refine LRl.nil ?_ | refine LRl.valA ?_ | refine LRl.outA ?_ | refine LRl.whenA ?_ | refine LRl.pickA ?_)
      refine LRl.act0 (LDo.store hD rfl rfl k9 rfl rfl rfl rfl) rfl rfl rfl (fun _ _ _ => .inr rfl) ?_
      rintro _ _ ⟨rfl, rfl⟩
      repeat (first | refine LRl.nil ?_ | refine LRl.valA ?_ | refine LRl.outA ?_ | refine LRl.whenA ?_ | refine LRl.pickA ?_)
      repeat (first | refine LOps.nil ?_ | refine andThen_normal ?_ | refine andThen_exit ?_ | refine andThen_ret ?_ | refine inBlock_normal ?_ | refine inBlock_ret ?_ | refine inBlock_here ?_ | refine inBlock_out rfl ?_ | refine LWp.seq ?_ | refine LWp.region ?_ | refine LWp.block ?_ | refine LWp.exit ?_ | refine LWp.ret ?_ | refine LWp.skip ?_ | refine LOps.valA ?_ | refine LOps.outA ?_ | refine LOps.whenA ?_ | refine LOps.pickA ?_ | refine LOps.storeA ?_)
      exact ⟨_, oneRes hP rfl rfl rfl (box_set _ _ _) rfl rfl, rfl, (hle.setBox s14 _).setBox s9 _⟩
    · rw [actD_yes h1]
      rw [e] at h1
      rw [h1] at hs hr
      have hr : LFun G 43 _ (.tup [.agg (dLI d'), .one (iv 0)]) := hr
      have k5' := (box_set_ne S4 (splice (ti55.zero.cells.toList.map constLV) 0 (dLI d')) n5e).trans k5
      have k9' := (box_set_ne S4 (splice (ti55.zero.cells.toList.map constLV) 0 (dLI d')) n9e).trans k9
      have k14' := box_set S4 b14 (splice (ti55.zero.cells.toList.map constLV) 0 (dLI d'))
      repeat (first | refine LOps.valH (LVal.call rfl rfl (by rw [hP]; exact Try.func30) rfl (by decide) (hs)) ?_ | refine LOps.valH (LVal.call rfl rfl (by rw [hP]; exact Try.func43) rfl (by decide) (hr)) ?_ | refine LWp.condT rfl ?_ | refine LWp.condF rfl ?_ | refine LOps.valH (LVal.to (LVal.binOp hD rfl rfl rfl rfl) (r' := .one (.v (.bool true))) (congrArg (fun b => TV.one (.v (.bool b))) (by first | exact decide_eq_true (by omega) | (rw [beq_iff_eq]; omega) | (rw [bne_iff_ne]; omega)))) ?_ | refine LOps.valH (LVal.to (LVal.binOp hD rfl rfl rfl rfl) (r' := .one (.v (.bool false))) (congrArg (fun b => TV.one (.v (.bool b))) (by first | exact decide_eq_false (by omega) | (rw [beq_eq_false_iff_ne]; omega) | (rw [bne_eq_false_iff_eq]; omega)))) ?_ | refine LOps.valW ?_ | refine LOps.nil ?_ | refine andThen_normal ?_ | refine andThen_exit ?_ | refine andThen_ret ?_ | refine inBlock_normal ?_ | refine inBlock_ret ?_ | refine inBlock_here ?_ | refine inBlock_out rfl ?_ | refine LWp.seq ?_ | refine LWp.region ?_ | refine LWp.block ?_ | refine LWp.exit ?_ | refine LWp.ret ?_ | refine LWp.skip ?_ | refine LOps.val (LVal.call rfl rfl (by rw [hP]; exact Try.func30) rfl (by decide) (hs)) rfl rfl rfl ?_ | refine LOps.val (LVal.call rfl rfl (by rw [hP]; exact Try.func43) rfl (by decide) (hr)) rfl rfl rfl ?_ | refine LOps.whenC (LVal.call rfl rfl (by rw [hP]; exact Try.func30) rfl (by decide) (hs)) ?_ | refine LOps.whenC (LVal.call rfl rfl (by rw [hP]; exact Try.func43) rfl (by decide) (hr)) ?_ | refine LOps.valA ?_ | refine LOps.outA ?_ | refine LOps.whenA ?_ | refine LOps.pickA ?_ | refine LOps.storeA ?_)
      clear k9 k5
      have k5 := k5'
      have k9 := k9'
      refine LWp.drawL [0, 1, 2, 3, 4] (by rw [hP]; rfl) rfl ?_
      repeat (first | refine LRl.nil ?_ | refine LRl.valA ?_ | refine LRl.outA ?_ | refine LRl.whenA ?_ | refine LRl.pickA ?_)
      refine LRl.act0 (LDo.store hD rfl rfl k9 rfl rfl rfl rfl) rfl rfl rfl (fun _ _ _ => .inr rfl) ?_
      rintro _ _ ⟨rfl, rfl⟩
      repeat (first | refine LRl.nil ?_ | refine LRl.valA ?_ | refine LRl.outA ?_ | refine LRl.whenA ?_ | refine LRl.pickA ?_)
      repeat (first | refine LOps.nil ?_ | refine andThen_normal ?_ | refine andThen_exit ?_ | refine andThen_ret ?_ | refine inBlock_normal ?_ | refine inBlock_ret ?_ | refine inBlock_here ?_ | refine inBlock_out rfl ?_ | refine LWp.seq ?_ | refine LWp.region ?_ | refine LWp.block ?_ | refine LWp.exit ?_ | refine LWp.ret ?_ | refine LWp.skip ?_ | refine LOps.valA ?_ | refine LOps.outA ?_ | refine LOps.whenA ?_ | refine LOps.pickA ?_ | refine LOps.storeA ?_)
      exact ⟨_, oneRes hP rfl rfl rfl (box_set _ _ _) rfl rfl, rfl, (hle.setBox s14 _).setBox s9 _⟩
  by_cases k1 : a.kind = 1
  · have e : againD (some d) a x = mergeDI (some d) a.i x := by simp only [againD, if_neg k0, if_pos k1]
    have hs := mergeI_F hP (some d) hdw a.i x
    have hr : LFun G 44 _ (.tup [.agg (dLI ((mergeDI (some d) a.i x).1.getD noDir)), .one (iv (mergeDI (some d) a.i x).2)]) := refMerge_F hP d hd.len hsm hsz a.i x
    rcases againD_cases hok ha x with ⟨er, h1, h2⟩ | ⟨d', h1, h2⟩
    · rw [actD_no h1 h2]
      rw [e] at h1
      rw [h1] at hs hr
      have hr : LFun G 44 _ (.tup [.agg (dLI noDir), .one (iv er)]) := hr
      have k5' := (box_set_ne S4 (splice (ti55.zero.cells.toList.map constLV) 0 (dLI noDir)) n5e).trans k5
      have k9' := (box_set_ne S4 (splice (ti55.zero.cells.toList.map constLV) 0 (dLI noDir)) n9e).trans k9
      have k14' := box_set S4 b14 (splice (ti55.zero.cells.toList.map constLV) 0 (dLI noDir))
      repeat (first | refine LOps.valH (LVal.call rfl rfl (by rw [hP]; exact Try.func31) rfl (by decide) (hs)) ?_ | refine LOps.valH (LVal.call rfl rfl (by rw [hP]; exact Try.func44) rfl (by decide) (hr)) ?_ | refine LWp.condT rfl ?_ | refine LWp.condF rfl ?_ | refine LOps.valH (LVal.to (LVal.binOp hD rfl rfl rfl rfl) (r' := .one (.v (.bool true))) (congrArg (fun b => TV.one (.v (.bool b))) (by first | exact decide_eq_true (by omega) | (rw [beq_iff_eq]; omega) | (rw [bne_iff_ne]; omega)))) ?_ | refine LOps.valH (LVal.to (LVal.binOp hD rfl rfl rfl rfl) (r' := .one (.v (.bool false))) (congrArg (fun b => TV.one (.v (.bool b))) (by first | exact decide_eq_false (by omega) | (rw [beq_eq_false_iff_ne]; omega) | (rw [bne_eq_false_iff_eq]; omega)))) ?_ | refine LOps.valW ?_ | refine LOps.nil ?_ | refine andThen_normal ?_ | refine andThen_exit ?_ | refine andThen_ret ?_ | refine inBlock_normal ?_ | refine inBlock_ret ?_ | refine inBlock_here ?_ | refine inBlock_out rfl ?_ | refine LWp.seq ?_ | refine LWp.region ?_ | refine LWp.block ?_ | refine LWp.exit ?_ | refine LWp.ret ?_ | refine LWp.skip ?_ | refine LOps.val (LVal.call rfl rfl (by rw [hP]; exact Try.func31) rfl (by decide) (hs)) rfl rfl rfl ?_ | refine LOps.val (LVal.call rfl rfl (by rw [hP]; exact Try.func44) rfl (by decide) (hr)) rfl rfl rfl ?_ | refine LOps.whenC (LVal.call rfl rfl (by rw [hP]; exact Try.func31) rfl (by decide) (hs)) ?_ | refine LOps.whenC (LVal.call rfl rfl (by rw [hP]; exact Try.func44) rfl (by decide) (hr)) ?_ | refine LOps.valA ?_ | refine LOps.outA ?_ | refine LOps.whenA ?_ | refine LOps.pickA ?_ | refine LOps.storeA ?_)
      clear k9 k5
      have k5 := k5'
      have k9 := k9'
      refine LWp.drawL [0, 1, 2, 3, 4] (by rw [hP]; rfl) rfl ?_
      repeat (first | refine LRl.nil ?_ | refine LRl.valA ?_ | refine LRl.outA ?_ | refine LRl.whenA ?_ | refine LRl.pickA ?_)
      refine LRl.act0 (LDo.store hD rfl rfl k9 rfl rfl rfl rfl) rfl rfl rfl (fun _ _ _ => .inr rfl) ?_
      rintro _ _ ⟨rfl, rfl⟩
      repeat (first | refine LRl.nil ?_ | refine LRl.valA ?_ | refine LRl.outA ?_ | refine LRl.whenA ?_ | refine LRl.pickA ?_)
      repeat (first | refine LOps.nil ?_ | refine andThen_normal ?_ | refine andThen_exit ?_ | refine andThen_ret ?_ | refine inBlock_normal ?_ | refine inBlock_ret ?_ | refine inBlock_here ?_ | refine inBlock_out rfl ?_ | refine LWp.seq ?_ | refine LWp.region ?_ | refine LWp.block ?_ | refine LWp.exit ?_ | refine LWp.ret ?_ | refine LWp.skip ?_ | refine LOps.valA ?_ | refine LOps.outA ?_ | refine LOps.whenA ?_ | refine LOps.pickA ?_ | refine LOps.storeA ?_)
      exact ⟨_, oneRes hP rfl rfl rfl (box_set _ _ _) rfl rfl, rfl, (hle.setBox s14 _).setBox s9 _⟩
    · rw [actD_yes h1]
      rw [e] at h1
      rw [h1] at hs hr
      have hr : LFun G 44 _ (.tup [.agg (dLI d'), .one (iv 0)]) := hr
      have k5' := (box_set_ne S4 (splice (ti55.zero.cells.toList.map constLV) 0 (dLI d')) n5e).trans k5
      have k9' := (box_set_ne S4 (splice (ti55.zero.cells.toList.map constLV) 0 (dLI d')) n9e).trans k9
      have k14' := box_set S4 b14 (splice (ti55.zero.cells.toList.map constLV) 0 (dLI d'))
      repeat (first | refine LOps.valH (LVal.call rfl rfl (by rw [hP]; exact Try.func31) rfl (by decide) (hs)) ?_ | refine LOps.valH (LVal.call rfl rfl (by rw [hP]; exact Try.func44) rfl (by decide) (hr)) ?_ | refine LWp.condT rfl ?_ | refine LWp.condF rfl ?_ | refine LOps.valH (LVal.to (LVal.binOp hD rfl rfl rfl rfl) (r' := .one (.v (.bool true))) (congrArg (fun b => TV.one (.v (.bool b))) (by first | exact decide_eq_true (by omega) | (rw [beq_iff_eq]; omega) | (rw [bne_iff_ne]; omega)))) ?_ | refine LOps.valH (LVal.to (LVal.binOp hD rfl rfl rfl rfl) (r' := .one (.v (.bool false))) (congrArg (fun b => TV.one (.v (.bool b))) (by first | exact decide_eq_false (by omega) | (rw [beq_eq_false_iff_ne]; omega) | (rw [bne_eq_false_iff_eq]; omega)))) ?_ | refine LOps.valW ?_ | refine LOps.nil ?_ | refine andThen_normal ?_ | refine andThen_exit ?_ | refine andThen_ret ?_ | refine inBlock_normal ?_ | refine inBlock_ret ?_ | refine inBlock_here ?_ | refine inBlock_out rfl ?_ | refine LWp.seq ?_ | refine LWp.region ?_ | refine LWp.block ?_ | refine LWp.exit ?_ | refine LWp.ret ?_ | refine LWp.skip ?_ | refine LOps.val (LVal.call rfl rfl (by rw [hP]; exact Try.func31) rfl (by decide) (hs)) rfl rfl rfl ?_ | refine LOps.val (LVal.call rfl rfl (by rw [hP]; exact Try.func44) rfl (by decide) (hr)) rfl rfl rfl ?_ | refine LOps.whenC (LVal.call rfl rfl (by rw [hP]; exact Try.func31) rfl (by decide) (hs)) ?_ | refine LOps.whenC (LVal.call rfl rfl (by rw [hP]; exact Try.func44) rfl (by decide) (hr)) ?_ | refine LOps.valA ?_ | refine LOps.outA ?_ | refine LOps.whenA ?_ | refine LOps.pickA ?_ | refine LOps.storeA ?_)
      clear k9 k5
      have k5 := k5'
      have k9 := k9'
      refine LWp.drawL [0, 1, 2, 3, 4] (by rw [hP]; rfl) rfl ?_
      repeat (first | refine LRl.nil ?_ | refine LRl.valA ?_ | refine LRl.outA ?_ | refine LRl.whenA ?_ | refine LRl.pickA ?_)
      refine LRl.act0 (LDo.store hD rfl rfl k9 rfl rfl rfl rfl) rfl rfl rfl (fun _ _ _ => .inr rfl) ?_
      rintro _ _ ⟨rfl, rfl⟩
      repeat (first | refine LRl.nil ?_ | refine LRl.valA ?_ | refine LRl.outA ?_ | refine LRl.whenA ?_ | refine LRl.pickA ?_)
      repeat (first | refine LOps.nil ?_ | refine andThen_normal ?_ | refine andThen_exit ?_ | refine andThen_ret ?_ | refine inBlock_normal ?_ | refine inBlock_ret ?_ | refine inBlock_here ?_ | refine inBlock_out rfl ?_ | refine LWp.seq ?_ | refine LWp.region ?_ | refine LWp.block ?_ | refine LWp.exit ?_ | refine LWp.ret ?_ | refine LWp.skip ?_ | refine LOps.valA ?_ | refine LOps.outA ?_ | refine LOps.whenA ?_ | refine LOps.pickA ?_ | refine LOps.storeA ?_)
      exact ⟨_, oneRes hP rfl rfl rfl (box_set _ _ _) rfl rfl, rfl, (hle.setBox s14 _).setBox s9 _⟩
  by_cases k2 : a.kind = 2
  · have e : againD (some d) a x = repDI (some d) a.i a.n a.los (numsL a.los.length x) := by simp only [againD, if_neg k0, if_neg k1, if_pos k2]
    have hn := numbers_F hP (a.los.map sL).length x (by omega) ⟨hx.1, by omega⟩
    have hs := replaceI_F hP (some d) hdw a.i a.n a.los (numsL a.los.length x) (by omega) (by rw [numsL_length]; omega)
    have hr : LFun G 45 _ (.tup [.agg (dLI ((repDI (some d) a.i a.n a.los (numsL a.los.length x)).1.getD noDir)), .one (iv (repDI (some d) a.i a.n a.los (numsL a.los.length x)).2)]) := refReplace_F hP d hd.len hsm hsz a.i a.n a.los (numsL a.los.length x) (by omega) (by rw [numsL_length]; omega) a4
    rcases againD_cases hok ha x with ⟨er, h1, h2⟩ | ⟨d', h1, h2⟩
    · rw [actD_no h1 h2]
      rw [e] at h1
      rw [h1] at hs hr
      have hr : LFun G 45 _ (.tup [.agg (dLI noDir), .one (iv er)]) := hr
      rw [← hma] at hs hr
      repeat (first | refine LWp.condT rfl ?_ | refine LWp.condF rfl ?_ | refine LOps.valH (LVal.to (LVal.binOp hD rfl rfl rfl rfl) (r' := .one (.v (.bool true))) (congrArg (fun b => TV.one (.v (.bool b))) (by first | exact decide_eq_true (by omega) | (rw [beq_iff_eq]; omega) | (rw [bne_iff_ne]; omega)))) ?_ | refine LOps.valH (LVal.to (LVal.binOp hD rfl rfl rfl rfl) (r' := .one (.v (.bool false))) (congrArg (fun b => TV.one (.v (.bool b))) (by first | exact decide_eq_false (by omega) | (rw [beq_eq_false_iff_ne]; omega) | (rw [bne_eq_false_iff_eq]; omega)))) ?_ | refine LOps.valW ?_ | refine LOps.nil ?_ | refine andThen_normal ?_ | refine andThen_exit ?_ | refine andThen_ret ?_ | refine inBlock_normal ?_ | refine inBlock_ret ?_ | refine inBlock_here ?_ | refine inBlock_out rfl ?_ | refine LWp.seq ?_ | refine LWp.region ?_ | refine LWp.block ?_ | refine LWp.exit ?_ | refine LWp.ret ?_ | refine LWp.skip ?_ | refine LOps.valA ?_ | refine LOps.outA ?_ | refine LOps.whenA ?_ | refine LOps.pickA ?_ | refine LOps.storeA ?_)
      refine LWp.drawL [0, 1, 2, 3, 4, 5, 6, 7, 8, 9, 10, 11, 12, 13, 14, 15, 16, 17] (by rw [hP]; rfl) rfl ?_
      repeat (first | refine LRl.valC (fun _ => (LVal.call rfl rfl (by rw [hP]; exact Try.func35) rfl (by decide) (hn))) ?_ | refine LRl.valC (fun _ => (LVal.call rfl rfl (by rw [hP]; exact Try.func32) rfl (by decide) (hs))) ?_ | refine LRl.whenC (fun _ => (LVal.call rfl rfl (by rw [hP]; exact Try.func35) rfl (by decide) (hn))) ?_ | refine LRl.whenC (fun _ => (LVal.call rfl rfl (by rw [hP]; exact Try.func32) rfl (by decide) (hs))) ?_ | refine LRl.nil ?_ | refine LRl.valA ?_ | refine LRl.outA ?_ | refine LRl.whenA ?_ | refine LRl.pickA ?_)
      repeat (first | refine LOps.nil ?_ | refine andThen_normal ?_ | refine andThen_exit ?_ | refine andThen_ret ?_ | refine inBlock_normal ?_ | refine inBlock_ret ?_ | refine inBlock_here ?_ | refine inBlock_out rfl ?_ | refine LWp.seq ?_ | refine LWp.region ?_ | refine LWp.block ?_ | refine LWp.exit ?_ | refine LWp.ret ?_ | refine LWp.skip ?_ | refine LOps.valA ?_ | refine LOps.outA ?_ | refine LOps.whenA ?_ | refine LOps.pickA ?_ | refine LOps.storeA ?_)
      refine LWp.drawX (fun b => b = b14) [0, 1, 2, 3, 4, 5, 6, 7, 8, 9, 10, 11, 12, 13, 14, 15, 16, 17] (by rw [hP]; rfl) rfl ?_
      repeat (first | refine LRl.valC (fun _ => (LVal.call rfl rfl (by rw [hP]; exact Try.func35) rfl (by decide) (hn))) ?_ | refine LRl.valC (fun _ => (LVal.call rfl rfl (by rw [hP]; exact Try.func45) rfl (by decide) (hr))) ?_ | refine LRl.whenC (fun _ => (LVal.call rfl rfl (by rw [hP]; exact Try.func35) rfl (by decide) (hn))) ?_ | refine LRl.whenC (fun _ => (LVal.call rfl rfl (by rw [hP]; exact Try.func45) rfl (by decide) (hr))) ?_ | refine LRl.nil ?_ | refine LRl.valA ?_ | refine LRl.outA ?_ | refine LRl.whenA ?_ | refine LRl.pickA ?_)
      refine LRl.act0 (LDo.store hD rfl rfl k14 rfl rfl rfl rfl) rfl rfl rfl (by rintro _ _ ⟨rfl, rfl⟩; exact .inl (LS.leX.setBox (X := fun b => b = b14) rfl _)) ?_
      rintro _ _ ⟨rfl, rfl⟩
      repeat (first | refine LRl.nil ?_ | refine LRl.valA ?_ | refine LRl.outA ?_ | refine LRl.whenA ?_ | refine LRl.pickA ?_)
      have k5' := (box_set_ne S4 (splice (ti55.zero.cells.toList.map constLV) 0 (dLI noDir)) n5e).trans k5
      have k9' := (box_set_ne S4 (splice (ti55.zero.cells.toList.map constLV) 0 (dLI noDir)) n9e).trans k9
      have k14' := box_set S4 b14 (splice (ti55.zero.cells.toList.map constLV) 0 (dLI noDir))
      repeat (first | refine LWp.condT rfl ?_ | refine LWp.condF rfl ?_ | refine LOps.valH (LVal.to (LVal.binOp hD rfl rfl rfl rfl) (r' := .one (.v (.bool true))) (congrArg (fun b => TV.one (.v (.bool b))) (by first | exact decide_eq_true (by omega) | (rw [beq_iff_eq]; omega) | (rw [bne_iff_ne]; omega)))) ?_ | refine LOps.valH (LVal.to (LVal.binOp hD rfl rfl rfl rfl) (r' := .one (.v (.bool false))) (congrArg (fun b => TV.one (.v (.bool b))) (by first | exact decide_eq_false (by omega) | (rw [beq_eq_false_iff_ne]; omega) | (rw [bne_eq_false_iff_eq]; omega)))) ?_ | refine LOps.valW ?_ | refine LOps.nil ?_ | refine andThen_normal ?_ | refine andThen_exit ?_ | refine andThen_ret ?_ | refine inBlock_normal ?_ | refine inBlock_ret ?_ | refine inBlock_here ?_ | refine inBlock_out rfl ?_ | refine LWp.seq ?_ | refine LWp.region ?_ | refine LWp.block ?_ | refine LWp.exit ?_ | refine LWp.ret ?_ | refine LWp.skip ?_ | refine LOps.valA ?_ | refine LOps.outA ?_ | refine LOps.whenA ?_ | refine LOps.pickA ?_ | refine LOps.storeA ?_)
      clear k9 k5
      have k5 := k5'
      have k9 := k9'
      refine LWp.drawL [0, 1, 2, 3, 4] (by rw [hP]; rfl) rfl ?_
      repeat (first | refine LRl.nil ?_ | refine LRl.valA ?_ | refine LRl.outA ?_ | refine LRl.whenA ?_ | refine LRl.pickA ?_)
      refine LRl.act0 (LDo.store hD rfl rfl k9 rfl rfl rfl rfl) rfl rfl rfl (fun _ _ _ => .inr rfl) ?_
      rintro _ _ ⟨rfl, rfl⟩
      repeat (first | refine LRl.nil ?_ | refine LRl.valA ?_ | refine LRl.outA ?_ | refine LRl.whenA ?_ | refine LRl.pickA ?_)
      repeat (first | refine LOps.nil ?_ | refine andThen_normal ?_ | refine andThen_exit ?_ | refine andThen_ret ?_ | refine inBlock_normal ?_ | refine inBlock_ret ?_ | refine inBlock_here ?_ | refine inBlock_out rfl ?_ | refine LWp.seq ?_ | refine LWp.region ?_ | refine LWp.block ?_ | refine LWp.exit ?_ | refine LWp.ret ?_ | refine LWp.skip ?_ | refine LOps.valA ?_ | refine LOps.outA ?_ | refine LOps.whenA ?_ | refine LOps.pickA ?_ | refine LOps.storeA ?_)
      exact ⟨_, oneRes hP rfl rfl rfl (box_set _ _ _) rfl rfl, rfl, (hle.setBox s14 _).setBox s9 _⟩
    · rw [actD_yes h1]
      rw [e] at h1
      rw [h1] at hs hr
      have hr : LFun G 45 _ (.tup [.agg (dLI d'), .one (iv 0)]) := hr
      rw [← hma] at hs hr
      repeat (first | refine LWp.condT rfl ?_ | refine LWp.condF rfl ?_ | refine LOps.valH (LVal.to (LVal.binOp hD rfl rfl rfl rfl) (r' := .one (.v (.bool true))) (congrArg (fun b => TV.one (.v (.bool b))) (by first | exact decide_eq_true (by omega) | (rw [beq_iff_eq]; omega) | (rw [bne_iff_ne]; omega)))) ?_ | refine LOps.valH (LVal.to (LVal.binOp hD rfl rfl rfl rfl) (r' := .one (.v (.bool false))) (congrArg (fun b => TV.one (.v (.bool b))) (by first | exact decide_eq_false (by omega) | (rw [beq_eq_false_iff_ne]; omega) | (rw [bne_eq_false_iff_eq]; omega)))) ?_ | refine LOps.valW ?_ | refine LOps.nil ?_ | refine andThen_normal ?_ | refine andThen_exit ?_ | refine andThen_ret ?_ | refine inBlock_normal ?_ | refine inBlock_ret ?_ | refine inBlock_here ?_ | refine inBlock_out rfl ?_ | refine LWp.seq ?_ | refine LWp.region ?_ | refine LWp.block ?_ | refine LWp.exit ?_ | refine LWp.ret ?_ | refine LWp.skip ?_ | refine LOps.valA ?_ | refine LOps.outA ?_ | refine LOps.whenA ?_ | refine LOps.pickA ?_ | refine LOps.storeA ?_)
      refine LWp.drawL [0, 1, 2, 3, 4, 5, 6, 7, 8, 9, 10, 11, 12, 13, 14, 15, 16, 17] (by rw [hP]; rfl) rfl ?_
      repeat (first | refine LRl.valC (fun _ => (LVal.call rfl rfl (by rw [hP]; exact Try.func35) rfl (by decide) (hn))) ?_ | refine LRl.valC (fun _ => (LVal.call rfl rfl (by rw [hP]; exact Try.func32) rfl (by decide) (hs))) ?_ | refine LRl.whenC (fun _ => (LVal.call rfl rfl (by rw [hP]; exact Try.func35) rfl (by decide) (hn))) ?_ | refine LRl.whenC (fun _ => (LVal.call rfl rfl (by rw [hP]; exact Try.func32) rfl (by decide) (hs))) ?_ | refine LRl.nil ?_ | refine LRl.valA ?_ | refine LRl.outA ?_ | refine LRl.whenA ?_ | refine LRl.pickA ?_)
      repeat (first | refine LOps.nil ?_ | refine andThen_normal ?_ | refine andThen_exit ?_ | refine andThen_ret ?_ | refine inBlock_normal ?_ | refine inBlock_ret ?_ | refine inBlock_here ?_ | refine inBlock_out rfl ?_ | refine LWp.seq ?_ | refine LWp.region ?_ | refine LWp.block ?_ | refine LWp.exit ?_ | refine LWp.ret ?_ | refine LWp.skip ?_ | refine LOps.valA ?_ | refine LOps.outA ?_ | refine LOps.whenA ?_ | refine LOps.pickA ?_ | refine LOps.storeA ?_)
      refine LWp.drawX (fun b => b = b14) [0, 1, 2, 3, 4, 5, 6, 7, 8, 9, 10, 11, 12, 13, 14, 15, 16, 17] (by rw [hP]; rfl) rfl ?_
      repeat (first | refine LRl.valC (fun _ => (LVal.call rfl rfl (by rw [hP]; exact Try.func35) rfl (by decide) (hn))) ?_ | refine LRl.valC (fun _ => (LVal.call rfl rfl (by rw [hP]; exact Try.func45) rfl (by decide) (hr))) ?_ | refine LRl.whenC (fun _ => (LVal.call rfl rfl (by rw [hP]; exact Try.func35) rfl (by decide) (hn))) ?_ | refine LRl.whenC (fun _ => (LVal.call rfl rfl (by rw [hP]; exact Try.func45) rfl (by decide) (hr))) ?_ | refine LRl.nil ?_ | refine LRl.valA ?_ | refine LRl.outA ?_ | refine LRl.whenA ?_ | refine LRl.pickA ?_)
      refine LRl.act0 (LDo.store hD rfl rfl k14 rfl rfl rfl rfl) rfl rfl rfl (by rintro _ _ ⟨rfl, rfl⟩; exact .inl (LS.leX.setBox (X := fun b => b = b14) rfl _)) ?_
      rintro _ _ ⟨rfl, rfl⟩
      repeat (first | refine LRl.nil ?_ | refine LRl.valA ?_ | refine LRl.outA ?_ | refine LRl.whenA ?_ | refine LRl.pickA ?_)
      have k5' := (box_set_ne S4 (splice (ti55.zero.cells.toList.map constLV) 0 (dLI d')) n5e).trans k5
      have k9' := (box_set_ne S4 (splice (ti55.zero.cells.toList.map constLV) 0 (dLI d')) n9e).trans k9
      have k14' := box_set S4 b14 (splice (ti55.zero.cells.toList.map constLV) 0 (dLI d'))
      repeat (first | refine LWp.condT rfl ?_ | refine LWp.condF rfl ?_ | refine LOps.valH (LVal.to (LVal.binOp hD rfl rfl rfl rfl) (r' := .one (.v (.bool true))) (congrArg (fun b => TV.one (.v (.bool b))) (by first | exact decide_eq_true (by omega) | (rw [beq_iff_eq]; omega) | (rw [bne_iff_ne]; omega)))) ?_ | refine LOps.valH (LVal.to (LVal.binOp hD rfl rfl rfl rfl) (r' := .one (.v (.bool false))) (congrArg (fun b => TV.one (.v (.bool b))) (by first | exact decide_eq_false (by omega) | (rw [beq_eq_false_iff_ne]; omega) | (rw [bne_eq_false_iff_eq]; omega)))) ?_ | refine LOps.valW ?_ | refine LOps.nil ?_ | refine andThen_normal ?_ | refine andThen_exit ?_ | refine andThen_ret ?_ | refine inBlock_normal ?_ | refine inBlock_ret ?_ | refine inBlock_here ?_ | refine inBlock_out rfl ?_ | refine LWp.seq ?_ | refine LWp.region ?_ | refine LWp.block ?_ | refine LWp.exit ?_ | refine LWp.ret ?_ | refine LWp.skip ?_ | refine LOps.valA ?_ | refine LOps.outA ?_ | refine LOps.whenA ?_ | refine LOps.pickA ?_ | refine LOps.storeA ?_)
      clear k9 k5
      have k5 := k5'
      have k9 := k9'
      refine LWp.drawL [0, 1, 2, 3, 4] (by rw [hP]; rfl) rfl ?_
      repeat (first | refine LRl.nil ?_ | refine LRl.valA ?_ | refine LRl.outA ?_ | refine LRl.whenA ?_ | refine LRl.pickA ?_)
      refine LRl.act0 (LDo.store hD rfl rfl k9 rfl rfl rfl rfl) rfl rfl rfl (fun _ _ _ => .inr rfl) ?_
      rintro _ _ ⟨rfl, rfl⟩
      repeat (first | refine LRl.nil ?_ | refine LRl.valA ?_ | refine LRl.outA ?_ | refine LRl.whenA ?_ | refine LRl.pickA ?_)
      repeat (first | refine LOps.nil ?_ | refine andThen_normal ?_ | refine andThen_exit ?_ | refine andThen_ret ?_ | refine inBlock_normal ?_ | refine inBlock_ret ?_ | refine inBlock_here ?_ | refine inBlock_out rfl ?_ | refine LWp.seq ?_ | refine LWp.region ?_ | refine LWp.block ?_ | refine LWp.exit ?_ | refine LWp.ret ?_ | refine LWp.skip ?_ | refine LOps.valA ?_ | refine LOps.outA ?_ | refine LOps.whenA ?_ | refine LOps.pickA ?_ | refine LOps.storeA ?_)
      exact ⟨_, oneRes hP rfl rfl rfl (box_set _ _ _) rfl rfl, rfl, (hle.setBox s14 _).setBox s9 _⟩
  have hact : actD d a x = d := actD_no (e := 1) (by simp only [againD, if_neg k0, if_neg k1, if_neg k2]) (by decide)
  rw [hact]
  by_cases k3 : a.kind = 3
  · have hn := numbers_F hP ((a.los.map sL).length + 1) x (by omega) ⟨hx.1, by omega⟩
    have hno : d.replace a.i a.n a.los (numsL ((a.los.map sL).length + 1) x) = (none, 21) := by
      have : ¬ (a.los.length = (numsL ((a.los.map sL).length + 1) x).length ∧ d.fit a.i a.n a.los) := fun h => by have := h.1; rw [numsL_length] at this; omega
      simp only [Dv.replace, if_neg this]
    have hs := replaceI_F hP (some d) hdw a.i a.n a.los (numsL ((a.los.map sL).length + 1) x) (by omega) (by rw [numsL_length]; omega)
    have hr := refReplace_F hP d hd.len hsm hsz a.i a.n a.los (numsL ((a.los.map sL).length + 1) x) (by omega) (by rw [numsL_length]; omega) a4
    have e1 : repDI (some d) a.i a.n a.los (numsL ((a.los.map sL).length + 1) x) = (none, 21) := hno
    have e2 : refR d a.i a.n a.los (numsL ((a.los.map sL).length + 1) x) = (noDir, 21) := by simp only [refR, hno]; rfl
    rw [e1] at hs
    rw [e2] at hr
    repeat (first | refine LWp.condT rfl ?_ | refine LWp.condF rfl ?_ | refine LOps.valH (LVal.to (LVal.binOp hD rfl rfl rfl rfl) (r' := .one (.v (.bool true))) (congrArg (fun b => TV.one (.v (.bool b))) (by first | exact decide_eq_true (by omega) | (rw [beq_iff_eq]; omega) | (rw [bne_iff_ne]; omega)))) ?_ | refine LOps.valH (LVal.to (LVal.binOp hD rfl rfl rfl rfl) (r' := .one (.v (.bool false))) (congrArg (fun b => TV.one (.v (.bool b))) (by first | exact decide_eq_false (by omega) | (rw [beq_eq_false_iff_ne]; omega) | (rw [bne_eq_false_iff_eq]; omega)))) ?_ | refine LOps.valW ?_ | refine LOps.nil ?_ | refine andThen_normal ?_ | refine andThen_exit ?_ | refine andThen_ret ?_ | refine inBlock_normal ?_ | refine inBlock_ret ?_ | refine inBlock_here ?_ | refine inBlock_out rfl ?_ | refine LWp.seq ?_ | refine LWp.region ?_ | refine LWp.block ?_ | refine LWp.exit ?_ | refine LWp.ret ?_ | refine LWp.skip ?_ | refine LOps.valA ?_ | refine LOps.outA ?_ | refine LOps.whenA ?_ | refine LOps.pickA ?_ | refine LOps.storeA ?_)
    refine LWp.drawL [0, 1, 2, 3, 4, 5, 6, 7, 8, 9, 10, 11, 12, 13, 14, 15, 16, 17, 18] (by rw [hP]; rfl) rfl ?_
    repeat (first | refine LRl.valC (fun _ => (LVal.call rfl rfl (by rw [hP]; exact Try.func35) rfl (by decide) (hn))) ?_ | refine LRl.valC (fun _ => (LVal.call rfl rfl (by rw [hP]; exact Try.func32) rfl (by decide) (hs))) ?_ | refine LRl.whenC (fun _ => (LVal.call rfl rfl (by rw [hP]; exact Try.func35) rfl (by decide) (hn))) ?_ | refine LRl.whenC (fun _ => (LVal.call rfl rfl (by rw [hP]; exact Try.func32) rfl (by decide) (hs))) ?_ | refine LRl.nil ?_ | refine LRl.valA ?_ | refine LRl.outA ?_ | refine LRl.whenA ?_ | refine LRl.pickA ?_)
    repeat (first | refine LOps.nil ?_ | refine andThen_normal ?_ | refine andThen_exit ?_ | refine andThen_ret ?_ | refine inBlock_normal ?_ | refine inBlock_ret ?_ | refine inBlock_here ?_ | refine inBlock_out rfl ?_ | refine LWp.seq ?_ | refine LWp.region ?_ | refine LWp.block ?_ | refine LWp.exit ?_ | refine LWp.ret ?_ | refine LWp.skip ?_ | refine LOps.valA ?_ | refine LOps.outA ?_ | refine LOps.whenA ?_ | refine LOps.pickA ?_ | refine LOps.storeA ?_)
    refine LWp.drawX (fun b => b = b14) [0, 1, 2, 3, 4, 5, 6, 7, 8, 9, 10, 11, 12, 13, 14, 15, 16, 17, 18] (by rw [hP]; rfl) rfl ?_
    repeat (first | refine LRl.valC (fun _ => (LVal.call rfl rfl (by rw [hP]; exact Try.func35) rfl (by decide) (hn))) ?_ | refine LRl.valC (fun _ => (LVal.call rfl rfl (by rw [hP]; exact Try.func45) rfl (by decide) (hr))) ?_ | refine LRl.whenC (fun _ => (LVal.call rfl rfl (by rw [hP]; exact Try.func35) rfl (by decide) (hn))) ?_ | refine LRl.whenC (fun _ => (LVal.call rfl rfl (by rw [hP]; exact Try.func45) rfl (by decide) (hr))) ?_ | refine LRl.nil ?_ | refine LRl.valA ?_ | refine LRl.outA ?_ | refine LRl.whenA ?_ | refine LRl.pickA ?_)
    refine LRl.act0 (LDo.store hD rfl rfl k14 rfl rfl rfl rfl) rfl rfl rfl (by rintro _ _ ⟨rfl, rfl⟩; exact .inl (LS.leX.setBox (X := fun b => b = b14) rfl _)) ?_
    rintro _ _ ⟨rfl, rfl⟩
    repeat (first | refine LRl.nil ?_ | refine LRl.valA ?_ | refine LRl.outA ?_ | refine LRl.whenA ?_ | refine LRl.pickA ?_)
    have k5' := (box_set_ne S4 (splice (ti55.zero.cells.toList.map constLV) 0 (dLI noDir)) n5e).trans k5
    have k9' := (box_set_ne S4 (splice (ti55.zero.cells.toList.map constLV) 0 (dLI noDir)) n9e).trans k9
    repeat (first | refine LWp.condT rfl ?_ | refine LWp.condF rfl ?_ | refine LOps.valH (LVal.to (LVal.binOp hD rfl rfl rfl rfl) (r' := .one (.v (.bool true))) (congrArg (fun b => TV.one (.v (.bool b))) (by first | exact decide_eq_true (by omega) | (rw [beq_iff_eq]; omega) | (rw [bne_iff_ne]; omega)))) ?_ | refine LOps.valH (LVal.to (LVal.binOp hD rfl rfl rfl rfl) (r' := .one (.v (.bool false))) (congrArg (fun b => TV.one (.v (.bool b))) (by first | exact decide_eq_false (by omega) | (rw [beq_eq_false_iff_ne]; omega) | (rw [bne_eq_false_iff_eq]; omega)))) ?_ | refine LOps.valW ?_ | refine LOps.nil ?_ | refine andThen_normal ?_ | refine andThen_exit ?_ | refine andThen_ret ?_ | refine inBlock_normal ?_ | refine inBlock_ret ?_ | refine inBlock_here ?_ | refine inBlock_out rfl ?_ | refine LWp.seq ?_ | refine LWp.region ?_ | refine LWp.block ?_ | refine LWp.exit ?_ | refine LWp.ret ?_ | refine LWp.skip ?_ | refine LOps.valA ?_ | refine LOps.outA ?_ | refine LOps.whenA ?_ | refine LOps.pickA ?_ | refine LOps.storeA ?_)
    clear k9 k5
    have k5 := k5'
    have k9 := k9'
    refine LWp.drawL [0, 1, 2, 3, 4] (by rw [hP]; rfl) rfl ?_
    repeat (first | refine LRl.nil ?_ | refine LRl.valA ?_ | refine LRl.outA ?_ | refine LRl.whenA ?_ | refine LRl.pickA ?_)
    refine LRl.act0 (LDo.store hD rfl rfl k9 rfl rfl rfl rfl) rfl rfl rfl (fun _ _ _ => .inr rfl) ?_
    rintro _ _ ⟨rfl, rfl⟩
    repeat (first | refine LRl.nil ?_ | refine LRl.valA ?_ | refine LRl.outA ?_ | refine LRl.whenA ?_ | refine LRl.pickA ?_)
    repeat (first | refine LOps.nil ?_ | refine andThen_normal ?_ | refine andThen_exit ?_ | refine andThen_ret ?_ | refine inBlock_normal ?_ | refine inBlock_ret ?_ | refine inBlock_here ?_ | refine inBlock_out rfl ?_ | refine LWp.seq ?_ | refine LWp.region ?_ | refine LWp.block ?_ | refine LWp.exit ?_ | refine LWp.ret ?_ | refine LWp.skip ?_ | refine LOps.valA ?_ | refine LOps.outA ?_ | refine LOps.whenA ?_ | refine LOps.pickA ?_ | refine LOps.storeA ?_)
    exact ⟨_, oneRes hP rfl rfl rfl (box_set _ _ _) rfl rfl, rfl, (hle.setBox s14 _).setBox s9 _⟩
  repeat (first | refine LWp.condT rfl ?_ | refine LWp.condF rfl ?_ | refine LOps.valH (LVal.to (LVal.binOp hD rfl rfl rfl rfl) (r' := .one (.v (.bool true))) (congrArg (fun b => TV.one (.v (.bool b))) (by first | exact decide_eq_true (by omega) | (rw [beq_iff_eq]; omega) | (rw [bne_iff_ne]; omega)))) ?_ | refine LOps.valH (LVal.to (LVal.binOp hD rfl rfl rfl rfl) (r' := .one (.v (.bool false))) (congrArg (fun b => TV.one (.v (.bool b))) (by first | exact decide_eq_false (by omega) | (rw [beq_eq_false_iff_ne]; omega) | (rw [bne_eq_false_iff_eq]; omega)))) ?_ | refine LOps.valW ?_ | refine LOps.nil ?_ | refine andThen_normal ?_ | refine andThen_exit ?_ | refine andThen_ret ?_ | refine inBlock_normal ?_ | refine inBlock_ret ?_ | refine inBlock_here ?_ | refine inBlock_out rfl ?_ | refine LWp.seq ?_ | refine LWp.region ?_ | refine LWp.block ?_ | refine LWp.exit ?_ | refine LWp.ret ?_ | refine LWp.skip ?_ | refine LOps.valA ?_ | refine LOps.outA ?_ | refine LOps.whenA ?_ | refine LOps.pickA ?_ | refine LOps.storeA ?_)
  refine LWp.drawL [0, 1, 2, 3, 4] (by rw [hP]; rfl) rfl ?_
  repeat (first | refine LRl.nil ?_ | refine LRl.valA ?_ | refine LRl.outA ?_ | refine LRl.whenA ?_ | refine LRl.pickA ?_)
  refine LRl.act0 (LDo.store hD rfl rfl k9 rfl rfl rfl rfl) rfl rfl rfl (fun _ _ _ => .inr rfl) ?_
  rintro _ _ ⟨rfl, rfl⟩
  repeat (first | refine LRl.nil ?_ | refine LRl.valA ?_ | refine LRl.outA ?_ | refine LRl.whenA ?_ | refine LRl.pickA ?_)
  repeat (first | refine LOps.nil ?_ | refine andThen_normal ?_ | refine andThen_exit ?_ | refine andThen_ret ?_ | refine inBlock_normal ?_ | refine inBlock_ret ?_ | refine inBlock_here ?_ | refine inBlock_out rfl ?_ | refine LWp.seq ?_ | refine LWp.region ?_ | refine LWp.block ?_ | refine LWp.exit ?_ | refine LWp.ret ?_ | refine LWp.skip ?_ | refine LOps.valA ?_ | refine LOps.outA ?_ | refine LOps.whenA ?_ | refine LOps.pickA ?_ | refine LOps.storeA ?_)
  exact ⟨_, oneRes hP rfl rfl rfl (box_set _ _ _) rfl rfl, rfl, hle.setBox s9 _⟩
end Go.Proofs.Ytkjbdldjfjkneaa.LF
