/- What an operation does: the walk of Do. -/
import Derived.Test.YtndcdmmmfplbbaaLOe
set_option linter.unusedVariables false
set_option linter.unusedSimpArgs false
namespace Go.Proofs.Ytndcdmmmfplbbaa.LF
open Go.RowKit
set_option linter.unusedVariables false

theorem MvO.of_le {S S' : LS} {b : Nat} {X : LV} (h : S.le S') : MvO S b X S' X := ⟨fun c cs hb _ hx => ⟨h.box c cs hb, hx⟩, h.row, h.obj, h.top⟩
theorem MvO.setFresh {S S' : LS} {b b4 : Nat} {X X' : LV} (h : MvO S b X S' X') (hn : S.box b4 = none) (cs' : List LV) : MvO S b X (S'.setBox b4 cs') X' :=
  ⟨fun c cs hb hc hx => ⟨(box_set_ne S' cs' (fun e => by rw [e, hn] at hb; cases hb)).trans (h.box c cs hb hc hx).1, (h.box c cs hb hc hx).2⟩, h.row, h.obj, h.top⟩
theorem OM.setOther {S : LS} {b b4 : Nat} {X : LV} {l : List Pr} (m : OM S b X l) (h1 : b ≠ b4) (h2 : blockOf X ≠ some b4) (cs : List LV) : OM (S.setBox b4 cs) b X l := by
  refine ⟨(box_set_ne S cs h1).trans m.box, ?_, m.ne, m.srt⟩
  have hs := m.sl
  cases hs with
  | nil => exact .nil
  | row r c _ rest hr => exact .row r c l rest ⟨(box_set_ne S cs (fun e => h2 (by rw [← e]; rfl))).trans hr.box, hr.room, hr.cap⟩
theorem ansRes {G : Ctx} (hP : G.P = Try.prog) {n : Nat} {fn : Func} {T : Nat → TV} {S : LS} {a : Tmp} {b : Nat} {x : Ans} (hf : fn.results = #[.cell a 35]) (ha : T a = ptr b) (hb : S.box b = some (ansL x)) : LRes G n fn T S (.agg (ansL x)) :=
  LRes.cell hf (.cell ha hb (hP ▸ tok35) rfl)
theorem OM.noBlock {S : LS} {b b4 : Nat} {X : LV} {l : List Pr} (m : OM S b X l) (h : S.box b4 = none) : b ≠ b4 ∧ blockOf X ≠ some b4 :=
  by
  refine ⟨fun e => ?_, fun e => ?_⟩
  · have := m.box; rw [e, h] at this; cases this
  · obtain ⟨cs, hcs⟩ := m.sl.block b4 e; rw [h] at hcs; cases hcs

set_option maxHeartbeats 16000000 in
set_option maxRecDepth 10000 in
theorem do_L {G : Ctx} (hP : G.P = Try.prog) (l : List Pr) (hl : l.length ≤ 100000) (o : OpV) (b : Nat) (X : LV) (S : LS) (m : OM S b X l) :
    LCalls G 16 [ptr b, .agg (opL o)] (fun r S' => r = .agg (ansL (doA l o)) ∧ ∃ X', OM S' b X' (doM l o) ∧ MvO S b X S' X') S := by
  have hD : TabOK G.P D := by rw [hP]; exact hD0
  have c0 := refused_F hP o
  have hml : (o.writes.map wrL).length = o.writes.length := List.length_map ..
  refine LCalls.enter (fn := Try.f16) (by rw [hP]; exact Try.func16) rfl rfl ?_
  repeat (first | refine LOps.nil ?_ | refine andThen_normal ?_ | refine andThen_exit ?_ | refine andThen_ret ?_ | refine inBlock_normal ?_ | refine inBlock_ret ?_ | refine inBlock_here ?_ | refine inBlock_out rfl ?_ | refine LWp.seq ?_ | refine LWp.region ?_ | refine LWp.block ?_ | refine LWp.exit ?_ | refine LWp.ret ?_ | refine LWp.skip ?_ | refine LOps.valA ?_ | refine LOps.outA ?_ | refine LOps.whenA ?_ | refine LOps.pickA ?_ | refine LOps.storeA ?_)
  have hle := LS.le.refl S
  refine LOps.do (LDo.box rfl rfl) rfl rfl rfl ?_
  rintro _ _ ⟨b3, hb3, rfl, rfl⟩
  have s3 := hle.none hb3
  refine LOps.gen (fun S' => S.le S' ∧ S'.box b3 = some (opL o)) ⟨hle.newBox hb3 _, box_new _ _ _⟩ ?_
  clear hle hb3 
  rintro S3 ⟨hle, k3⟩
  skip
  refine LOps.do (LDo.alloc hD rfl rfl rfl) rfl rfl rfl ?_
  rintro _ _ ⟨b4, hb4, rfl, rfl⟩
  have n3_4 := fresh_ne hb4 k3
  have m4_3 := n3_4.symm
  have s4 := hle.none hb4
  refine LOps.gen (fun S' => S.le S' ∧ S'.box b3 = some (opL o) ∧ S'.box b4 = some (ansL noAns)) ⟨hle.newBox hb4 _, (box_new_ne _ _ n3_4).trans k3, box_new _ _ _⟩ ?_
  clear hle hb4 k3
  rintro S4 ⟨hle, k3, k4⟩
  have m4 := m.le hle
  repeat (first | refine LOps.valH (LVal.load hD rfl rfl k3 rfl rfl) ?_ | refine LOps.nil ?_ | refine andThen_normal ?_ | refine andThen_exit ?_ | refine andThen_ret ?_ | refine inBlock_normal ?_ | refine inBlock_ret ?_ | refine inBlock_here ?_ | refine inBlock_out rfl ?_ | refine LWp.seq ?_ | refine LWp.region ?_ | refine LWp.block ?_ | refine LWp.exit ?_ | refine LWp.ret ?_ | refine LWp.skip ?_ | refine LOps.val (LVal.call rfl rfl (by rw [hP]; exact Try.func18) rfl (by decide) (c0)) rfl rfl rfl ?_ | refine LOps.whenC (LVal.call rfl rfl (by rw [hP]; exact Try.func18) rfl (by decide) (c0)) ?_ | refine LOps.valA ?_ | refine LOps.outA ?_ | refine LOps.whenA ?_ | refine LOps.pickA ?_ | refine LOps.storeA ?_)
  refine LWp.cond rfl (fun h => ?_) (fun h => ?_)
  · have h : (refusedO o != 0) = true := h
    have hr : ¬ refusedO o = 0 := by simpa using h
    repeat (first | refine LOps.nil ?_ | refine andThen_normal ?_ | refine andThen_exit ?_ | refine andThen_ret ?_ | refine inBlock_normal ?_ | refine inBlock_ret ?_ | refine inBlock_here ?_ | refine inBlock_out rfl ?_ | refine LWp.seq ?_ | refine LWp.region ?_ | refine LWp.block ?_ | refine LWp.exit ?_ | refine LWp.ret ?_ | refine LWp.skip ?_ | refine LOps.valA ?_ | refine LOps.outA ?_ | refine LOps.whenA ?_ | refine LOps.pickA ?_)
    refine LOps.storeA (b := b4) (off := 0) (cs := ansL noAns) (l := ansL ⟨refusedO o, false, noBytes, noBytes⟩) ?_
    refine LOps.gen (fun S' => S.le S' ∧ S'.box b3 = some (opL o) ∧ S'.box b4 = some (ansL ⟨refusedO o, false, noBytes, noBytes⟩)) ⟨hle.setBox s4 _, (box_set_ne _ _ n3_4).trans k3, (box_set _ _ _).trans (congrArg some (rfl))⟩ ?_
    clear hle k3 k4
    rintro Ss ⟨hle, k3, k4⟩
    repeat (first | refine LOps.nil ?_ | refine andThen_normal ?_ | refine andThen_exit ?_ | refine andThen_ret ?_ | refine inBlock_normal ?_ | refine inBlock_ret ?_ | refine inBlock_here ?_ | refine inBlock_out rfl ?_ | refine LWp.seq ?_ | refine LWp.region ?_ | refine LWp.block ?_ | refine LWp.exit ?_ | refine LWp.ret ?_ | refine LWp.skip ?_ | refine LOps.valA ?_ | refine LOps.outA ?_ | refine LOps.whenA ?_ | refine LOps.pickA ?_ | refine LOps.storeA ?_)
    refine ⟨_, ansRes hP rfl rfl k4, by rw [doA, if_neg hr], X, by rw [doM, if_neg hr]; exact m.le hle, .of_le hle⟩
  have h : (refusedO o != 0) = false := h
  have hr : refusedO o = 0 := by simpa using h
  clear h
  repeat (first | refine LOps.nil ?_ | refine andThen_normal ?_ | refine andThen_exit ?_ | refine andThen_ret ?_ | refine inBlock_normal ?_ | refine inBlock_ret ?_ | refine inBlock_here ?_ | refine inBlock_out rfl ?_ | refine LWp.seq ?_ | refine LWp.region ?_ | refine LWp.block ?_ | refine LWp.exit ?_ | refine LWp.ret ?_ | refine LWp.skip ?_ | refine LOps.valA ?_ | refine LOps.outA ?_ | refine LOps.whenA ?_ | refine LOps.pickA ?_ | refine LOps.storeA ?_)
  refine LOps.do (LDo.callX (get_L hP l (by omega) o.key b X _ m4) (by rw [hP]; exact Try.func29)) rfl rfl rfl ?_
  rintro _ S5 ⟨rfl, hS5⟩
  subst hS5
  have hk := refused_kind hr
  have hdoA : doA l o = if o.kind = 1 ∨ o.kind = 2 ∨ o.kind = 3 then ⟨0, hasP l o.key, noBytes, oldP l o.key⟩
    else if o.kind = 4 then ⟨0, doneO l o, noBytes, oldP l o.key⟩
    else if o.kind = 5 then pairA (nextP l o.key o.after)
    else noAns := by rw [doA, if_pos hr]
  have hdoM : doM l o = if o.kind = 2 then setP l o.key o.val
    else if o.kind = 3 then dropP l o.key
    else if o.kind = 4 then (if doneO l o then setP l o.key o.val else l)
    else if o.kind = 6 then o.writes.foldl stepW l
    else l := by rw [doM, if_pos hr]
  obtain ⟨e3, e4⟩ := m.noBlock s4
  by_cases h1 : o.kind = 1
  · repeat (first | refine LWp.condT rfl ?_ | refine LOps.valH (LVal.to (LVal.binOp hD rfl rfl rfl rfl) (r' := .one (.v (.bool true))) (congrArg (fun b => TV.one (.v (.bool b))) (by first | exact decide_eq_true (by omega) | (rw [beq_iff_eq]; omega) | (rw [bne_iff_ne]; omega)))) ?_ | refine LOps.valH (LVal.to (LVal.binOp hD rfl rfl rfl rfl) (r' := .one (.v (.bool false))) (congrArg (fun b => TV.one (.v (.bool b))) (by first | exact decide_eq_false (by omega) | (rw [beq_eq_false_iff_ne]; omega) | (rw [bne_eq_false_iff_eq]; omega)))) ?_ | refine LOps.valW ?_ | refine LOps.nil ?_ | refine andThen_normal ?_ | refine andThen_exit ?_ | refine andThen_ret ?_ | refine inBlock_normal ?_ | refine inBlock_ret ?_ | refine inBlock_here ?_ | refine inBlock_out rfl ?_ | refine LWp.seq ?_ | refine LWp.region ?_ | refine LWp.block ?_ | refine LWp.exit ?_ | refine LWp.ret ?_ | refine LWp.skip ?_ | refine LOps.valA ?_ | refine LOps.outA ?_ | refine LOps.whenA ?_ | refine LOps.pickA ?_)
    refine LOps.storeA (b := b4) (off := 0) (cs := ansL noAns) (l := ansL ⟨0, hasP l o.key, noBytes, oldP l o.key⟩) ?_
    refine LOps.gen (fun S' => S.le S' ∧ S'.box b3 = some (opL o) ∧ S'.box b4 = some (ansL ⟨0, hasP l o.key, noBytes, oldP l o.key⟩)) ⟨hle.setBox s4 _, (box_set_ne _ _ n3_4).trans k3, (box_set _ _ _).trans (congrArg some (rfl))⟩ ?_
    clear hle k3 k4
    rintro Ss ⟨hle, k3, k4⟩
    repeat (first | refine LOps.nil ?_ | refine andThen_normal ?_ | refine andThen_exit ?_ | refine andThen_ret ?_ | refine inBlock_normal ?_ | refine inBlock_ret ?_ | refine inBlock_here ?_ | refine inBlock_out rfl ?_ | refine LWp.seq ?_ | refine LWp.region ?_ | refine LWp.block ?_ | refine LWp.exit ?_ | refine LWp.ret ?_ | refine LWp.skip ?_ | refine LOps.valA ?_ | refine LOps.outA ?_ | refine LOps.whenA ?_ | refine LOps.pickA ?_ | refine LOps.storeA ?_)
    exact ⟨_, ansRes hP rfl rfl k4, by rw [hdoA, if_pos (by omega)], X, by rw [hdoM, if_neg (by omega), if_neg (by omega), if_neg (by omega), if_neg (by omega)]; exact m.le hle, .of_le hle⟩
  by_cases h2 : o.kind = 2
  · repeat (first | refine LWp.condT rfl ?_ | refine LWp.condF rfl ?_ | refine LOps.valH (LVal.to (LVal.binOp hD rfl rfl rfl rfl) (r' := .one (.v (.bool true))) (congrArg (fun b => TV.one (.v (.bool b))) (by first | exact decide_eq_true (by omega) | (rw [beq_iff_eq]; omega) | (rw [bne_iff_ne]; omega)))) ?_ | refine LOps.valH (LVal.to (LVal.binOp hD rfl rfl rfl rfl) (r' := .one (.v (.bool false))) (congrArg (fun b => TV.one (.v (.bool b))) (by first | exact decide_eq_false (by omega) | (rw [beq_eq_false_iff_ne]; omega) | (rw [bne_eq_false_iff_eq]; omega)))) ?_ | refine LOps.valW ?_ | refine LOps.nil ?_ | refine andThen_normal ?_ | refine andThen_exit ?_ | refine andThen_ret ?_ | refine inBlock_normal ?_ | refine inBlock_ret ?_ | refine inBlock_here ?_ | refine inBlock_out rfl ?_ | refine LWp.seq ?_ | refine LWp.region ?_ | refine LWp.block ?_ | refine LWp.exit ?_ | refine LWp.ret ?_ | refine LWp.skip ?_ | refine LOps.valA ?_ | refine LOps.outA ?_ | refine LOps.whenA ?_ | refine LOps.pickA ?_ | refine LOps.storeA ?_)
    refine LOps.do (LDo.callX (set_L hP l (by omega) o.key o.val b X _ (m.le hle)) (by rw [hP]; exact Try.func25)) rfl rfl rfl ?_
    rintro _ S6 ⟨rfl, X', m6, mv⟩
    obtain ⟨k6, x6⟩ := mv.box b4 _ k4 (fun e => e3 e.symm) e4
    repeat (first | refine LOps.nil ?_ | refine andThen_normal ?_ | refine andThen_exit ?_ | refine andThen_ret ?_ | refine inBlock_normal ?_ | refine inBlock_ret ?_ | refine inBlock_here ?_ | refine inBlock_out rfl ?_ | refine LWp.seq ?_ | refine LWp.region ?_ | refine LWp.block ?_ | refine LWp.exit ?_ | refine LWp.ret ?_ | refine LWp.skip ?_ | refine LOps.valA ?_ | refine LOps.outA ?_ | refine LOps.whenA ?_ | refine LOps.pickA ?_ | refine LOps.storeA ?_)
    refine ⟨_, ansRes hP rfl rfl ((box_set _ _ _).trans (congrArg some (show _ = ansL ⟨0, hasP l o.key, noBytes, oldP l o.key⟩ from rfl))), by rw [hdoA, if_pos (by omega)], X', by rw [hdoM, if_pos h2]; exact m6.setOther e3 x6 _, (MvO.after (l := l) hle mv).setFresh s4 _⟩
  by_cases h3 : o.kind = 3
  · repeat (first | refine LWp.condT rfl ?_ | refine LWp.condF rfl ?_ | refine LOps.valH (LVal.to (LVal.binOp hD rfl rfl rfl rfl) (r' := .one (.v (.bool true))) (congrArg (fun b => TV.one (.v (.bool b))) (by first | exact decide_eq_true (by omega) | (rw [beq_iff_eq]; omega) | (rw [bne_iff_ne]; omega)))) ?_ | refine LOps.valH (LVal.to (LVal.binOp hD rfl rfl rfl rfl) (r' := .one (.v (.bool false))) (congrArg (fun b => TV.one (.v (.bool b))) (by first | exact decide_eq_false (by omega) | (rw [beq_eq_false_iff_ne]; omega) | (rw [bne_eq_false_iff_eq]; omega)))) ?_ | refine LOps.valW ?_ | refine LOps.nil ?_ | refine andThen_normal ?_ | refine andThen_exit ?_ | refine andThen_ret ?_ | refine inBlock_normal ?_ | refine inBlock_ret ?_ | refine inBlock_here ?_ | refine inBlock_out rfl ?_ | refine LWp.seq ?_ | refine LWp.region ?_ | refine LWp.block ?_ | refine LWp.exit ?_ | refine LWp.ret ?_ | refine LWp.skip ?_ | refine LOps.valA ?_ | refine LOps.outA ?_ | refine LOps.whenA ?_ | refine LOps.pickA ?_ | refine LOps.storeA ?_)
    refine LOps.do (LDo.callX (drop_L hP l (by omega) o.key b X _ (m.le hle)) (by rw [hP]; exact Try.func30)) rfl rfl rfl ?_
    rintro _ S6 ⟨rfl, X', m6, mv⟩
    obtain ⟨k6, x6⟩ := mv.box b4 _ k4 (fun e => e3 e.symm) e4
    repeat (first | refine LOps.nil ?_ | refine andThen_normal ?_ | refine andThen_exit ?_ | refine andThen_ret ?_ | refine inBlock_normal ?_ | refine inBlock_ret ?_ | refine inBlock_here ?_ | refine inBlock_out rfl ?_ | refine LWp.seq ?_ | refine LWp.region ?_ | refine LWp.block ?_ | refine LWp.exit ?_ | refine LWp.ret ?_ | refine LWp.skip ?_ | refine LOps.valA ?_ | refine LOps.outA ?_ | refine LOps.whenA ?_ | refine LOps.pickA ?_ | refine LOps.storeA ?_)
    refine ⟨_, ansRes hP rfl rfl ((box_set _ _ _).trans (congrArg some (show _ = ansL ⟨0, hasP l o.key, noBytes, oldP l o.key⟩ from rfl))), by rw [hdoA, if_pos (by omega)], X', by rw [hdoM, if_neg h2, if_pos h3]; exact m6.setOther e3 x6 _, (MvO.after (l := l) hle mv).setFresh s4 _⟩
  by_cases h4 : o.kind = 4
  · repeat (first | refine LWp.condT rfl ?_ | refine LWp.condF rfl ?_ | refine LOps.valH (LVal.to (LVal.binOp hD rfl rfl rfl rfl) (r' := .one (.v (.bool true))) (congrArg (fun b => TV.one (.v (.bool b))) (by first | exact decide_eq_true (by omega) | (rw [beq_iff_eq]; omega) | (rw [bne_iff_ne]; omega)))) ?_ | refine LOps.valH (LVal.to (LVal.binOp hD rfl rfl rfl rfl) (r' := .one (.v (.bool false))) (congrArg (fun b => TV.one (.v (.bool b))) (by first | exact decide_eq_false (by omega) | (rw [beq_eq_false_iff_ne]; omega) | (rw [bne_eq_false_iff_eq]; omega)))) ?_ | refine LOps.valW ?_ | refine LOps.nil ?_ | refine andThen_normal ?_ | refine andThen_exit ?_ | refine andThen_ret ?_ | refine inBlock_normal ?_ | refine inBlock_ret ?_ | refine inBlock_here ?_ | refine inBlock_out rfl ?_ | refine LWp.seq ?_ | refine LWp.region ?_ | refine LWp.block ?_ | refine LWp.exit ?_ | refine LWp.ret ?_ | refine LWp.skip ?_ | refine LOps.valA ?_ | refine LOps.outA ?_ | refine LOps.whenA ?_ | refine LOps.pickA ?_ | refine LOps.storeA ?_)
    refine LWp.cond rfl (fun h => ?_) (fun h => ?_)
    · have h : doneO l o = true := h
      repeat (first | refine LOps.nil ?_ | refine andThen_normal ?_ | refine andThen_exit ?_ | refine andThen_ret ?_ | refine inBlock_normal ?_ | refine inBlock_ret ?_ | refine inBlock_here ?_ | refine inBlock_out rfl ?_ | refine LWp.seq ?_ | refine LWp.region ?_ | refine LWp.block ?_ | refine LWp.exit ?_ | refine LWp.ret ?_ | refine LWp.skip ?_ | refine LOps.valA ?_ | refine LOps.outA ?_ | refine LOps.whenA ?_ | refine LOps.pickA ?_ | refine LOps.storeA ?_)
      refine LOps.do (LDo.callX (set_L hP l (by omega) o.key o.val b X _ (m.le hle)) (by rw [hP]; exact Try.func25)) rfl rfl rfl ?_
      rintro _ S6 ⟨rfl, X', m6, mv⟩
      obtain ⟨k6, x6⟩ := mv.box b4 _ k4 (fun e => e3 e.symm) e4
      repeat (first | refine LOps.nil ?_ | refine andThen_normal ?_ | refine andThen_exit ?_ | refine andThen_ret ?_ | refine inBlock_normal ?_ | refine inBlock_ret ?_ | refine inBlock_here ?_ | refine inBlock_out rfl ?_ | refine LWp.seq ?_ | refine LWp.region ?_ | refine LWp.block ?_ | refine LWp.exit ?_ | refine LWp.ret ?_ | refine LWp.skip ?_ | refine LOps.valA ?_ | refine LOps.outA ?_ | refine LOps.whenA ?_ | refine LOps.pickA ?_ | refine LOps.storeA ?_)
      refine ⟨_, ansRes hP rfl rfl ((box_set _ _ _).trans (congrArg some (show _ = ansL ⟨0, doneO l o, noBytes, oldP l o.key⟩ from rfl))), by rw [hdoA, if_neg (by omega), if_pos h4], X', by rw [hdoM, if_neg h2, if_neg h3, if_pos h4, if_pos h]; exact m6.setOther e3 x6 _, (MvO.after (l := l) hle mv).setFresh s4 _⟩
    · have h : doneO l o = false := h
      repeat (first | refine LOps.nil ?_ | refine andThen_normal ?_ | refine andThen_exit ?_ | refine andThen_ret ?_ | refine inBlock_normal ?_ | refine inBlock_ret ?_ | refine inBlock_here ?_ | refine inBlock_out rfl ?_ | refine LWp.seq ?_ | refine LWp.region ?_ | refine LWp.block ?_ | refine LWp.exit ?_ | refine LWp.ret ?_ | refine LWp.skip ?_ | refine LOps.valA ?_ | refine LOps.outA ?_ | refine LOps.whenA ?_ | refine LOps.pickA ?_ | refine LOps.storeA ?_)
      refine ⟨_, ansRes hP rfl rfl ((box_set _ _ _).trans (congrArg some (show _ = ansL ⟨0, doneO l o, noBytes, oldP l o.key⟩ from rfl))), by rw [hdoA, if_neg (by omega), if_pos h4], X, by rw [hdoM, if_neg h2, if_neg h3, if_pos h4, if_neg (by rw [h]; decide)]; exact (m.le hle).setOther e3 e4 _, (MvO.of_le hle).setFresh s4 _⟩
  by_cases h5 : o.kind = 5
  · repeat (first | refine LWp.condT rfl ?_ | refine LWp.condF rfl ?_ | refine LOps.valH (LVal.to (LVal.binOp hD rfl rfl rfl rfl) (r' := .one (.v (.bool true))) (congrArg (fun b => TV.one (.v (.bool b))) (by first | exact decide_eq_true (by omega) | (rw [beq_iff_eq]; omega) | (rw [bne_iff_ne]; omega)))) ?_ | refine LOps.valH (LVal.to (LVal.binOp hD rfl rfl rfl rfl) (r' := .one (.v (.bool false))) (congrArg (fun b => TV.one (.v (.bool b))) (by first | exact decide_eq_false (by omega) | (rw [beq_eq_false_iff_ne]; omega) | (rw [bne_eq_false_iff_eq]; omega)))) ?_ | refine LOps.valW ?_ | refine LOps.nil ?_ | refine andThen_normal ?_ | refine andThen_exit ?_ | refine andThen_ret ?_ | refine inBlock_normal ?_ | refine inBlock_ret ?_ | refine inBlock_here ?_ | refine inBlock_out rfl ?_ | refine LWp.seq ?_ | refine LWp.region ?_ | refine LWp.block ?_ | refine LWp.exit ?_ | refine LWp.ret ?_ | refine LWp.skip ?_ | refine LOps.valA ?_ | refine LOps.outA ?_ | refine LOps.whenA ?_ | refine LOps.pickA ?_ | refine LOps.storeA ?_)
    refine LOps.do (LDo.callX (find_L hP l (by omega) o.key b X _ (m.le hle)) (by rw [hP]; exact Try.func31)) rfl rfl rfl ?_
    rintro _ S6 ⟨rfl, hS6⟩
    subst hS6
    obtain ⟨i, hi⟩ : ∃ i, i = if hasP l o.key && o.after then posP l o.key + 1 else posP l o.key := ⟨_, rfl⟩
    have hil : i ≤ l.length := by
      rw [hi]
      split
      · rename_i h
        rw [Bool.and_eq_true] at h
        obtain ⟨hlt, _⟩ := hasP_lt h.1
        omega
      · exact posP_le _ _
    have hnext : nextP l o.key o.after = l[i]? := by rw [nextP, hi]
    rw [hnext, if_neg (by omega), if_neg h4, if_pos h5] at hdoA
    rw [if_neg h2, if_neg h3, if_neg h4, if_neg (by omega)] at hdoM
    repeat (first | (refine LWp.seq (LWp.cut 21 (fun T' S' => S' = S6 ∧ ∃ T'', T' = over T'' [(0, ptr b), (3, ptr b3), (4, ptr b4), (9, .one (iv (i : Nat)))]) rfl ?_ ?_); rotate_left) | refine LOps.nil ?_ | refine andThen_normal ?_ | refine andThen_exit ?_ | refine andThen_ret ?_ | refine inBlock_normal ?_ | refine inBlock_ret ?_ | refine inBlock_here ?_ | refine inBlock_out rfl ?_ | refine LWp.seq ?_ | refine LWp.region ?_ | refine LWp.block ?_ | refine LWp.exit ?_ | refine LWp.ret ?_ | refine LWp.skip ?_ | refine LOps.valA ?_ | refine LOps.outA ?_ | refine LOps.whenA ?_ | refine LOps.pickA ?_ | refine LOps.storeA ?_)
    rotate_left
    · repeat (first | refine LOps.nil ?_ | refine andThen_normal ?_ | refine andThen_exit ?_ | refine andThen_ret ?_ | refine inBlock_normal ?_ | refine inBlock_ret ?_ | refine inBlock_here ?_ | refine inBlock_out rfl ?_ | refine LWp.seq ?_ | refine LWp.region ?_ | refine LWp.block ?_ | refine LWp.exit ?_ | refine LWp.ret ?_ | refine LWp.skip ?_ | refine LOps.valA ?_ | refine LOps.outA ?_ | refine LOps.whenA ?_ | refine LOps.pickA ?_ | refine LOps.storeA ?_)
      refine LWp.cond rfl (fun h => ?_) (fun h => ?_)
      · have h : (hasP l o.key && o.after) = true := h
        rw [if_pos h] at hi
        have hlt := posP_le l o.key
        repeat (first | refine LOps.nil ?_ | refine andThen_normal ?_ | refine andThen_exit ?_ | refine andThen_ret ?_ | refine inBlock_normal ?_ | refine inBlock_ret ?_ | refine inBlock_here ?_ | refine inBlock_out rfl ?_ | refine LWp.seq ?_ | refine LWp.region ?_ | refine LWp.block ?_ | refine LWp.exit ?_ | refine LWp.ret ?_ | refine LWp.skip ?_ | refine LOps.valA ?_ | refine LOps.outA ?_ | refine LOps.whenA ?_ | refine LOps.pickA ?_ | refine LOps.storeA ?_)
        exact ⟨rfl, _, holds.over ⟨rfl, rfl, rfl, by rw [hi]; rfl, trivial⟩⟩
      · have h : (hasP l o.key && o.after) = false := h
        rw [if_neg (by rw [h]; decide)] at hi
        repeat (first | refine LOps.nil ?_ | refine andThen_normal ?_ | refine andThen_exit ?_ | refine andThen_ret ?_ | refine inBlock_normal ?_ | refine inBlock_ret ?_ | refine inBlock_here ?_ | refine inBlock_out rfl ?_ | refine LWp.seq ?_ | refine LWp.region ?_ | refine LWp.block ?_ | refine LWp.exit ?_ | refine LWp.ret ?_ | refine LWp.skip ?_ | refine LOps.valA ?_ | refine LOps.outA ?_ | refine LOps.whenA ?_ | refine LOps.pickA ?_ | refine LOps.storeA ?_)
        exact ⟨rfl, _, holds.over ⟨rfl, rfl, rfl, by rw [hi]; rfl, trivial⟩⟩
    rintro _ S7 ⟨hS7, T7, rfl⟩
    subst hS7
    have m7 := m.le hle
    have hb7 := m7.box
    have hs7 := m7.sl
    cases hs7 with
    | nil =>
      obtain rfl : i = 0 := by simpa using hil
      repeat (first | refine LOps.valW ?_ | refine LWp.condT rfl ?_ | refine LOps.valH (LVal.to (LVal.binOp hD rfl rfl rfl rfl) (r' := .one (.v (.bool true))) (congrArg (fun b => TV.one (.v (.bool b))) (by first | exact decide_eq_true (by omega) | (rw [beq_iff_eq]; omega) | (rw [bne_iff_ne]; omega)))) ?_ | refine LOps.valH (LVal.to (LVal.binOp hD rfl rfl rfl rfl) (r' := .one (.v (.bool false))) (congrArg (fun b => TV.one (.v (.bool b))) (by first | exact decide_eq_false (by omega) | (rw [beq_eq_false_iff_ne]; omega) | (rw [bne_eq_false_iff_eq]; omega)))) ?_ | refine LOps.valW ?_ | refine LOps.nil ?_ | refine andThen_normal ?_ | refine andThen_exit ?_ | refine andThen_ret ?_ | refine inBlock_normal ?_ | refine inBlock_ret ?_ | refine inBlock_here ?_ | refine inBlock_out rfl ?_ | refine LWp.seq ?_ | refine LWp.region ?_ | refine LWp.block ?_ | refine LWp.exit ?_ | refine LWp.ret ?_ | refine LWp.skip ?_ | refine LOps.valA ?_ | refine LOps.outA ?_ | refine LOps.whenA ?_ | refine LOps.pickA ?_ | refine LOps.storeA ?_)
      refine ⟨_, ansRes hP rfl rfl ((box_set _ _ _).trans (congrArg some (show _ = ansL noAns from rfl))), by rw [hdoA]; rfl, _, by rw [hdoM]; exact (m.le hle).setOther e3 e4 _, (MvO.of_le hle).setFresh s4 _⟩
    | row r c _ rest hrow =>
      have hbr := hrow.box
      repeat (first | refine LOps.valH (LVal.lenR hD rfl rfl rfl rfl) ?_ | refine LOps.valW ?_ | refine LOps.nil ?_ | refine andThen_normal ?_ | refine andThen_exit ?_ | refine andThen_ret ?_ | refine inBlock_normal ?_ | refine inBlock_ret ?_ | refine inBlock_here ?_ | refine inBlock_out rfl ?_ | refine LWp.seq ?_ | refine LWp.region ?_ | refine LWp.block ?_ | refine LWp.exit ?_ | refine LWp.ret ?_ | refine LWp.skip ?_ | refine LOps.valA ?_ | refine LOps.outA ?_ | refine LOps.whenA ?_ | refine LOps.pickA ?_ | refine LOps.storeA ?_)
      refine LWp.cond rfl (fun h => ?_) (fun h => ?_)
      · have h : ((i : Int) == (l.length : Int)) = true := h
        rw [beq_iff_eq] at h
        have hie : i = l.length := by omega
        repeat (first | refine LOps.nil ?_ | refine andThen_normal ?_ | refine andThen_exit ?_ | refine andThen_ret ?_ | refine inBlock_normal ?_ | refine inBlock_ret ?_ | refine inBlock_here ?_ | refine inBlock_out rfl ?_ | refine LWp.seq ?_ | refine LWp.region ?_ | refine LWp.block ?_ | refine LWp.exit ?_ | refine LWp.ret ?_ | refine LWp.skip ?_ | refine LOps.valA ?_ | refine LOps.outA ?_ | refine LOps.whenA ?_ | refine LOps.pickA ?_ | refine LOps.storeA ?_)
        refine ⟨_, ansRes hP rfl rfl ((box_set _ _ _).trans (congrArg some (show _ = ansL noAns from rfl))), by rw [hdoA, hie, List.getElem?_eq_none (Nat.le_refl _)]; rfl, _, by rw [hdoM]; exact (m.le hle).setOther e3 e4 _, (MvO.of_le hle).setFresh s4 _⟩
      · have h : ((i : Int) == (l.length : Int)) = false := h
        rw [beq_eq_false_iff_ne] at h
        have hlt : i < l.length := by omega
        repeat (first | refine LOps.nil ?_ | refine andThen_normal ?_ | refine andThen_exit ?_ | refine andThen_ret ?_ | refine inBlock_normal ?_ | refine inBlock_ret ?_ | refine inBlock_here ?_ | refine inBlock_out rfl ?_ | refine LWp.seq ?_ | refine LWp.region ?_ | refine LWp.block ?_ | refine LWp.exit ?_ | refine LWp.ret ?_ | refine LWp.skip ?_ | refine LOps.valA ?_ | refine LOps.outA ?_ | refine LOps.whenA ?_ | refine LOps.pickA ?_ | refine LOps.storeA ?_)
        refine LWp.drawL [0, 1, 2, 3, 4, 5, 6, 7, 8, 9, 10, 11, 12, 13, 14, 15, 16, 17] (by rw [hP]; rfl) rfl ?_
        repeat (first | refine LRl.val (fun _ _ => LVal.indexR hD rfl rfl rfl rfl rfl rfl (by omega) (by omega)) rfl rfl rfl ?_ | refine LRl.val (fun _ hS => LVal.load hD rfl rfl (hS.box _ _ hbr id) rfl (by rw [Nat.zero_add]; exact rdKey hlt)) rfl rfl rfl ?_ | refine LRl.val (fun _ hS => LVal.load hD rfl rfl (hS.box _ _ hbr id) rfl (by rw [Nat.zero_add]; exact rdVal hlt)) rfl rfl rfl ?_ | refine LRl.nil ?_ | refine LRl.valA ?_ | refine LRl.outA ?_ | refine LRl.whenA ?_ | refine LRl.pickA ?_)
        refine LRl.act0 (LDo.store hD rfl rfl k4 rfl rfl rfl rfl) rfl rfl rfl (fun _ _ _ => .inr rfl) ?_
        rintro _ _ ⟨rfl, rfl⟩
        repeat (first | refine LRl.nil ?_ | refine LRl.valA ?_ | refine LRl.outA ?_ | refine LRl.whenA ?_ | refine LRl.pickA ?_)
        repeat (first | refine LOps.nil ?_ | refine andThen_normal ?_ | refine andThen_exit ?_ | refine andThen_ret ?_ | refine inBlock_normal ?_ | refine inBlock_ret ?_ | refine inBlock_here ?_ | refine inBlock_out rfl ?_ | refine LWp.seq ?_ | refine LWp.region ?_ | refine LWp.block ?_ | refine LWp.exit ?_ | refine LWp.ret ?_ | refine LWp.skip ?_ | refine LOps.valA ?_ | refine LOps.outA ?_ | refine LOps.whenA ?_ | refine LOps.pickA ?_ | refine LOps.storeA ?_)
        refine ⟨_, ansRes hP rfl rfl ((box_set _ _ _).trans (congrArg some (show _ = ansL ⟨0, true, l[i].key, l[i].val⟩ from rfl))), by rw [hdoA, List.getElem?_eq_getElem hlt]; rfl, _, by rw [hdoM]; exact (m.le hle).setOther e3 e4 _, (MvO.of_le hle).setFresh s4 _⟩
  have h6 : o.kind = 6 := by omega
  have hw8 := refused_long hr h6
  repeat (first | refine LWp.condF rfl ?_ | refine LOps.valH (LVal.to (LVal.binOp hD rfl rfl rfl rfl) (r' := .one (.v (.bool true))) (congrArg (fun b => TV.one (.v (.bool b))) (by first | exact decide_eq_true (by omega) | (rw [beq_iff_eq]; omega) | (rw [bne_iff_ne]; omega)))) ?_ | refine LOps.valH (LVal.to (LVal.binOp hD rfl rfl rfl rfl) (r' := .one (.v (.bool false))) (congrArg (fun b => TV.one (.v (.bool b))) (by first | exact decide_eq_false (by omega) | (rw [beq_eq_false_iff_ne]; omega) | (rw [bne_eq_false_iff_eq]; omega)))) ?_ | refine LOps.valW ?_ | refine LOps.nil ?_ | refine andThen_normal ?_ | refine andThen_exit ?_ | refine andThen_ret ?_ | refine inBlock_normal ?_ | refine inBlock_ret ?_ | refine inBlock_here ?_ | refine inBlock_out rfl ?_ | refine LWp.seq ?_ | refine LWp.region ?_ | refine LWp.block ?_ | refine LWp.exit ?_ | refine LWp.ret ?_ | refine LWp.skip ?_ | refine LOps.valA ?_ | refine LOps.outA ?_ | refine LOps.whenA ?_ | refine LOps.pickA ?_ | refine LOps.storeA ?_)
  rw [if_neg (by omega), if_neg h4, if_neg h5] at hdoA
  rw [if_neg h2, if_neg h3, if_neg h4, if_pos h6] at hdoM
  refine LWp.loop (fun k T S' => ∃ (T' : Nat → TV) (j : Nat) (X' : LV), j ≤ o.writes.length ∧ k = o.writes.length - j ∧ OM S' b X' ((o.writes.take j).foldl stepW l) ∧ MvO S b X S' X' ∧ S'.box b4 = some (ansL noAns) ∧ blockOf X' ≠ some b4 ∧
    T = over T' [(0, ptr b), (4, ptr b4), (125, .one (.sl .sh (o.writes.map wrL))), (126, .one (iv (o.writes.length : Nat))), (127, .one (iv (j : Nat)))]) o.writes.length ?_ ?_
  · exact ⟨_, 0, X, by omega, rfl, m.le hle, .of_le hle, k4, e4, holds.over ⟨rfl, rfl, rfl, by rw [← hml]; rfl, rfl, trivial⟩⟩
  clear hle k3 k4 m4
  rintro k T S8 ⟨T', j, X', hj, rfl, m8, mv8, k4, x8, rfl⟩
  have hlen8 := stepsW_length (o.writes.take j) l
  rw [List.length_take] at hlen8
  repeat (first | refine LOps.nil ?_ | refine andThen_normal ?_ | refine andThen_exit ?_ | refine andThen_ret ?_ | refine inBlock_normal ?_ | refine inBlock_ret ?_ | refine inBlock_here ?_ | refine inBlock_out rfl ?_ | refine LWp.seq ?_ | refine LWp.region ?_ | refine LWp.block ?_ | refine LWp.exit ?_ | refine LWp.ret ?_ | refine LWp.skip ?_ | refine LOps.valA ?_ | refine LOps.outA ?_ | refine LOps.whenA ?_ | refine LOps.pickA ?_ | refine LOps.storeA ?_)
  refine LWp.cond rfl (fun h => ?_) (fun h => ?_)
  · have hlt : j < o.writes.length := by simp at h; omega
    repeat (first | refine LOps.nil ?_ | refine andThen_normal ?_ | refine andThen_exit ?_ | refine andThen_ret ?_ | refine inBlock_normal ?_ | refine inBlock_ret ?_ | refine inBlock_here ?_ | refine inBlock_out rfl ?_ | refine LWp.seq ?_ | refine LWp.region ?_ | refine LWp.block ?_ | refine LWp.exit ?_ | refine LWp.ret ?_ | refine LWp.skip ?_ | refine LOps.valA ?_ | refine LOps.outA ?_ | refine LOps.whenA ?_ | refine LOps.pickA ?_ | refine LOps.storeA ?_)
    refine LOps.do (LDo.alloc hD rfl rfl rfl) rfl rfl rfl ?_
    rintro _ _ ⟨b12, hb12, rfl, rfl⟩
    have n4 : b4 ≠ b12 := fun e => by rw [e, hb12.box] at k4; cases k4
    have hle9 := (LS.le.newBox (.refl S8) hb12 (lzero ti46)).setBox hb12.box (wrL o.writes[j])
    have k49 := hle9.box _ _ k4
    repeat (first | refine LOps.nil ?_ | refine andThen_normal ?_ | refine andThen_exit ?_ | refine andThen_ret ?_ | refine inBlock_normal ?_ | refine inBlock_ret ?_ | refine inBlock_here ?_ | refine inBlock_out rfl ?_ | refine LWp.seq ?_ | refine LWp.region ?_ | refine LWp.block ?_ | refine LWp.exit ?_ | refine LWp.ret ?_ | refine LWp.skip ?_ | refine LOps.valA ?_ | refine LOps.outA ?_ | refine LOps.whenA ?_ | refine LOps.pickA ?_)
    refine LOps.storeA (b := b12) (off := 0) (cs := lzero ti46) (l := wrL o.writes[j]) ?_
    have k12 := box_set (S8.newBox b12 (lzero ti46)) b12 (splice (lzero ti46) 0 (wrL o.writes[j]))
    have m9 := m8.le hle9
    repeat (first | refine LOps.nil ?_ | refine andThen_normal ?_ | refine andThen_exit ?_ | refine andThen_ret ?_ | refine inBlock_normal ?_ | refine inBlock_ret ?_ | refine inBlock_here ?_ | refine inBlock_out rfl ?_ | refine LWp.seq ?_ | refine LWp.region ?_ | refine LWp.block ?_ | refine LWp.exit ?_ | refine LWp.ret ?_ | refine LWp.skip ?_ | refine LOps.valA ?_ | refine LOps.outA ?_ | refine LOps.whenA ?_ | refine LOps.pickA ?_)
    refine LWp.cond rfl (fun hg => ?_) (fun hg => ?_)
    · have hg : o.writes[j].gone = true := hg
      repeat (first | refine LOps.nil ?_ | refine andThen_normal ?_ | refine andThen_exit ?_ | refine andThen_ret ?_ | refine inBlock_normal ?_ | refine inBlock_ret ?_ | refine inBlock_here ?_ | refine inBlock_out rfl ?_ | refine LWp.seq ?_ | refine LWp.region ?_ | refine LWp.block ?_ | refine LWp.exit ?_ | refine LWp.ret ?_ | refine LWp.skip ?_ | refine LOps.valA ?_ | refine LOps.outA ?_ | refine LOps.whenA ?_ | refine LOps.pickA ?_)
      refine LOps.do (LDo.callX (drop_L hP _ (by omega) o.writes[j].key b X' _ m9) (by rw [hP]; exact Try.func30)) rfl rfl rfl ?_
      rintro _ S10 ⟨rfl, X2, m10, mv10⟩
      obtain ⟨k410, x10⟩ := mv10.box b4 _ k49 (fun e => e3 e.symm) x8
      repeat (first | refine LOps.nil ?_ | refine andThen_normal ?_ | refine andThen_exit ?_ | refine andThen_ret ?_ | refine inBlock_normal ?_ | refine inBlock_ret ?_ | refine inBlock_here ?_ | refine inBlock_out rfl ?_ | refine LWp.seq ?_ | refine LWp.region ?_ | refine LWp.block ?_ | refine LWp.exit ?_ | refine LWp.ret ?_ | refine LWp.skip ?_ | refine LOps.valA ?_ | refine LOps.outA ?_ | refine LOps.whenA ?_ | refine LOps.pickA ?_ | refine LOps.storeA ?_)
      exact ⟨o.writes.length - (j + 1), by omega, _, j + 1, X2, by omega, rfl, by rw [stepsW_take hlt, stepW, if_pos hg]; exact m10, mv8.trans (MvO.after (l := l) hle9 mv10), k410, x10, holds.over ⟨rfl, rfl, rfl, rfl, rfl, trivial⟩⟩
    · have hg : o.writes[j].gone = false := hg
      repeat (first | refine LOps.nil ?_ | refine andThen_normal ?_ | refine andThen_exit ?_ | refine andThen_ret ?_ | refine inBlock_normal ?_ | refine inBlock_ret ?_ | refine inBlock_here ?_ | refine inBlock_out rfl ?_ | refine LWp.seq ?_ | refine LWp.region ?_ | refine LWp.block ?_ | refine LWp.exit ?_ | refine LWp.ret ?_ | refine LWp.skip ?_ | refine LOps.valA ?_ | refine LOps.outA ?_ | refine LOps.whenA ?_ | refine LOps.pickA ?_)
      refine LOps.do (LDo.callX (set_L hP _ (by omega) o.writes[j].key o.writes[j].val b X' _ m9) (by rw [hP]; exact Try.func25)) rfl rfl rfl ?_
      rintro _ S10 ⟨rfl, X2, m10, mv10⟩
      obtain ⟨k410, x10⟩ := mv10.box b4 _ k49 (fun e => e3 e.symm) x8
      repeat (first | refine LOps.nil ?_ | refine andThen_normal ?_ | refine andThen_exit ?_ | refine andThen_ret ?_ | refine inBlock_normal ?_ | refine inBlock_ret ?_ | refine inBlock_here ?_ | refine inBlock_out rfl ?_ | refine LWp.seq ?_ | refine LWp.region ?_ | refine LWp.block ?_ | refine LWp.exit ?_ | refine LWp.ret ?_ | refine LWp.skip ?_ | refine LOps.valA ?_ | refine LOps.outA ?_ | refine LOps.whenA ?_ | refine LOps.pickA ?_ | refine LOps.storeA ?_)
      exact ⟨o.writes.length - (j + 1), by omega, _, j + 1, X2, by omega, rfl, by rw [stepsW_take hlt, stepW, if_neg (by rw [hg]; decide)]; exact m10, mv8.trans (MvO.after (l := l) hle9 mv10), k410, x10, holds.over ⟨rfl, rfl, rfl, rfl, rfl, trivial⟩⟩
  · have hge : j = o.writes.length := by simp at h; omega
    subst hge
    rw [List.take_length] at m8
    repeat (first | refine LOps.nil ?_ | refine andThen_normal ?_ | refine andThen_exit ?_ | refine andThen_ret ?_ | refine inBlock_normal ?_ | refine inBlock_ret ?_ | refine inBlock_here ?_ | refine inBlock_out rfl ?_ | refine LWp.seq ?_ | refine LWp.region ?_ | refine LWp.block ?_ | refine LWp.exit ?_ | refine LWp.ret ?_ | refine LWp.skip ?_ | refine LOps.valA ?_ | refine LOps.outA ?_ | refine LOps.whenA ?_ | refine LOps.pickA ?_ | refine LOps.storeA ?_)
    refine ⟨_, ansRes hP rfl rfl ((box_set _ _ _).trans (congrArg some (show _ = ansL noAns from rfl))), hdoA ▸ rfl, X', by rw [hdoM]; exact m8.setOther e3 x8 _, mv8.setFresh s4 _⟩
end Go.Proofs.Ytndcdmmmfplbbaa.LF
