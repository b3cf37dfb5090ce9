/- The document's map: the walk of Do. -/
import Derived.Test.YtndcdmmmfplbbaaLOi
set_option linter.unusedVariables false
set_option linter.unusedSimpArgs false
namespace Go.Proofs.Ytndcdmmmfplbbaa.LF
open Go.RowKit
set_option linter.unusedVariables false

def stepWW (w : List Pr) (x : Wr) : List Pr := if x.gone then withoutW w x.key else withW w x.key x.val
def doW (w : List Pr) (o : OpV) : List Pr :=
  if refusedO o = 0 then
    if o.kind = 2 then withW w o.key o.val
    else if o.kind = 3 then withoutW w o.key
    else if o.kind = 4 then (if ((o.had && (findW w o.key).isSome) && decide (oldW w o.key = o.old)) || (!o.had && !(findW w o.key).isSome) then withW w o.key o.val else w)
    else if o.kind = 6 then o.writes.foldl stepWW w
    else w
  else w
theorem Alike.stepW {w l : List Pr} (h : Alike w l) (x : Wr) : Alike (stepWW w x) (stepW l x) := by
  unfold stepWW LF.stepW
  split
  · exact h.without _
  · exact h.with _ _
theorem Alike.steps : ∀ (ws : List Wr) {w l : List Pr}, Alike w l → Alike (ws.foldl stepWW w) (ws.foldl LF.stepW l)
  | [], _, _, h => h
  | x :: ws, _, _, h => Alike.steps ws (h.stepW x)
theorem done_form {w l : List Pr} (h : Alike w l) (o : OpV) : (((o.had && (findW w o.key).isSome) && decide (oldW w o.key = o.old)) || (!o.had && !(findW w o.key).isSome)) = doneO l o := by
  rw [h.has, h.old, doneO]
  cases o.had <;> cases hasP l o.key <;> simp
theorem Alike.doO {w l : List Pr} (h : Alike w l) (o : OpV) : Alike (doW w o) (doM l o) := by
  unfold doW doM
  rw [done_form h]
  split
  · split
    · exact h.with _ _
    · split
      · exact h.without _
      · split
        · split
          · exact h.with _ _
          · exact h
        · split
          · exact Alike.steps _ h
          · exact h
  · exact h
theorem stepWW_length (w : List Pr) (x : Wr) : (stepWW w x).length ≤ w.length + 1 := by
  unfold stepWW
  split
  · have := withoutW_length w x.key; omega
  · exact withW_length _ _ _
theorem stepsWW_length : ∀ (ws : List Wr) (w : List Pr), (ws.foldl stepWW w).length ≤ w.length + ws.length
  | [], w => by simp
  | x :: ws, w => by
    have h1 := stepsWW_length ws (stepWW w x)
    have h2 := stepWW_length w x
    rw [List.foldl_cons, List.length_cons]; omega
theorem stepsWW_take {ws : List Wr} {w : List Pr} {j : Nat} (h : j < ws.length) : (ws.take (j + 1)).foldl stepWW w = stepWW ((ws.take j).foldl stepWW w) ws[j] := by
  rw [List.take_succ_eq_append_getElem h, List.foldl_append]; rfl

theorem doRes {G : Ctx} (hP : G.P = Try.prog) {n : Nat} {fn : Func} {T : Nat → TV} {S : LS} {a c : Tmp} {b d : Nat} {w : Own} {es : List (List LV)} {x : Ans} (hf : fn.results = #[.cell a 29, .cell c 35]) (ha : T a = ptr b) (hb : S.box b = some [.sl w es]) (hc : T c = ptr d) (hd : S.box d = some (ansL x)) : LRes G n fn T S (.tup [.agg [.sl .sh es], .agg (ansL x)]) :=
  LRes.sh (r := .tup [.agg [.sl w es], .agg (ansL x)]) (LRes.many (vs := [.cell a 29, .cell c 35]) hf rfl (.cons (.cell ha hb (hP ▸ tok29) rfl) (.cons (.cell hc hd (hP ▸ tok35) rfl) .nil)))

set_option maxHeartbeats 16000000 in
set_option maxRecDepth 10000 in
theorem doW_F {G : Ctx} (hP : G.P = Try.prog) (w l : List Pr) (ha : Alike w l) (hl : w.length ≤ 100000) (hs : SmallW w) (o : OpV) (hk : o.key.size ≤ 1000000) (hw : o.writes.length ≤ 1000) : LFun G 17 [.agg (mapW w), .agg (opL o)] (.tup [.agg (mapW (doW w o)), .agg (ansL (doA l o))]) := LFun.of fun S => by
  have hD : TabOK G.P D := by rw [hP]; exact hD0
  have hml : (o.writes.map wrL).length = o.writes.length := List.length_map ..
  have c0 := refusedW_F hP o (by omega)
  have c1 := getW_F hP w (by omega) o.key
  rw [ha.old, ha.has] at c1
  refine LCalls.enter (fn := Try.f17) (by rw [hP]; exact Try.func17) rfl rfl ?_
  repeat (first | refine LOps.nil ?_ | refine andThen_normal ?_ | refine andThen_exit ?_ | refine andThen_ret ?_ | refine inBlock_normal ?_ | refine inBlock_ret ?_ | refine inBlock_here ?_ | refine inBlock_out rfl ?_ | refine LWp.seq ?_ | refine LWp.region ?_ | refine LWp.block ?_ | refine LWp.exit ?_ | refine LWp.ret ?_ | refine LWp.skip ?_ | refine LOps.valA ?_ | refine LOps.outA ?_ | refine LOps.whenA ?_ | refine LOps.pickA ?_ | refine LOps.storeA ?_)
  have hle := LS.le.refl S
  refine LOps.do (LDo.box rfl rfl) rfl rfl rfl ?_
  rintro _ _ ⟨b2, hb2, rfl, rfl⟩
  have s2 := hle.none hb2
  refine LOps.gen (fun S' => S.le S' ∧ S'.box b2 = some (mapW w)) ⟨hle.newBox hb2 _, box_new _ _ _⟩ ?_
  clear hle hb2 
  rintro S2 ⟨hle, k2⟩
  skip
  refine LOps.do (LDo.box rfl rfl) rfl rfl rfl ?_
  rintro _ _ ⟨b3, hb3, rfl, rfl⟩
  have n2_3 := fresh_ne hb3 k2
  have m3_2 := n2_3.symm
  have s3 := hle.none hb3
  refine LOps.gen (fun S' => S.le S' ∧ S'.box b2 = some (mapW w) ∧ S'.box b3 = some (opL o)) ⟨hle.newBox hb3 _, (box_new_ne _ _ n2_3).trans k2, box_new _ _ _⟩ ?_
  clear hle hb3 k2
  rintro S3 ⟨hle, k2, k3⟩
  skip
  refine LOps.do (LDo.alloc hD rfl rfl rfl) rfl rfl rfl ?_
  rintro _ _ ⟨b4, hb4, rfl, rfl⟩
  have n2_4 := fresh_ne hb4 k2
  have m4_2 := n2_4.symm
  have n3_4 := fresh_ne hb4 k3
  have m4_3 := n3_4.symm
  have s4 := hle.none hb4
  refine LOps.gen (fun S' => S.le S' ∧ S'.box b2 = some (mapW w) ∧ S'.box b3 = some (opL o) ∧ S'.box b4 = some ([.sl .nil []])) ⟨hle.newBox hb4 _, (box_new_ne _ _ n2_4).trans k2, (box_new_ne _ _ n3_4).trans k3, box_new _ _ _⟩ ?_
  clear hle hb4 k2 k3
  rintro S4 ⟨hle, k2, k3, k4⟩
  skip
  refine LOps.do (LDo.alloc hD rfl rfl rfl) rfl rfl rfl ?_
  rintro _ _ ⟨b5, hb5, rfl, rfl⟩
  have n2_5 := fresh_ne hb5 k2
  have m5_2 := n2_5.symm
  have n3_5 := fresh_ne hb5 k3
  have m5_3 := n3_5.symm
  have n4_5 := fresh_ne hb5 k4
  have m5_4 := n4_5.symm
  have s5 := hle.none hb5
  refine LOps.gen (fun S' => S.le S' ∧ S'.box b2 = some (mapW w) ∧ S'.box b3 = some (opL o) ∧ S'.box b4 = some ([.sl .nil []]) ∧ S'.box b5 = some (ansL noAns)) ⟨hle.newBox hb5 _, (box_new_ne _ _ n2_5).trans k2, (box_new_ne _ _ n3_5).trans k3, (box_new_ne _ _ n4_5).trans k4, box_new _ _ _⟩ ?_
  clear hle hb5 k2 k3 k4
  rintro S5 ⟨hle, k2, k3, k4, k5⟩
  repeat (first | refine LOps.valH (LVal.load hD rfl rfl k3 rfl rfl) ?_ | refine LOps.nil ?_ | refine andThen_normal ?_ | refine andThen_exit ?_ | refine andThen_ret ?_ | refine inBlock_normal ?_ | refine inBlock_ret ?_ | refine inBlock_here ?_ | refine inBlock_out rfl ?_ | refine LWp.seq ?_ | refine LWp.region ?_ | refine LWp.block ?_ | refine LWp.exit ?_ | refine LWp.ret ?_ | refine LWp.skip ?_ | refine LOps.val (LVal.call rfl rfl (by rw [hP]; exact Try.func19) rfl (by decide) (c0)) rfl rfl rfl ?_ | refine LOps.whenC (LVal.call rfl rfl (by rw [hP]; exact Try.func19) rfl (by decide) (c0)) ?_ | refine LOps.valA ?_ | refine LOps.outA ?_ | refine LOps.whenA ?_ | refine LOps.pickA ?_ | refine LOps.storeA ?_)
  refine LWp.cond rfl (fun h => ?_) (fun h => ?_)
  · have h : (refusedO o != 0) = true := h
    have hr : ¬ refusedO o = 0 := by simpa using h
    repeat (first | refine LOps.valH (LVal.load hD rfl rfl k2 rfl rfl) ?_ | refine LOps.nil ?_ | refine andThen_normal ?_ | refine andThen_exit ?_ | refine andThen_ret ?_ | refine inBlock_normal ?_ | refine inBlock_ret ?_ | refine inBlock_here ?_ | refine inBlock_out rfl ?_ | refine LWp.seq ?_ | refine LWp.region ?_ | refine LWp.block ?_ | refine LWp.exit ?_ | refine LWp.ret ?_ | refine LWp.skip ?_ | refine LOps.valA ?_ | refine LOps.outA ?_ | refine LOps.whenA ?_ | refine LOps.pickA ?_)
    refine LOps.storeA (b := b4) (off := 0) (cs := [.sl .nil []]) (l := mapW w) ?_
    refine LOps.gen (fun S' => S.le S' ∧ S'.box b2 = some (mapW w) ∧ S'.box b3 = some (opL o) ∧ S'.box b4 = some (mapW w) ∧ S'.box b5 = some (ansL noAns)) ⟨hle.setBox s4 _, (box_set_ne _ _ n2_4).trans k2, (box_set_ne _ _ n3_4).trans k3, (box_set _ _ _).trans (congrArg some (rfl)), (box_set_ne _ _ m5_4).trans k5⟩ ?_
    clear hle k2 k3 k4 k5
    rintro Ss ⟨hle, k2, k3, k4, k5⟩
    refine LOps.storeA (b := b5) (off := 0) (cs := ansL noAns) (l := ansL ⟨refusedO o, false, noBytes, noBytes⟩) ?_
    refine LOps.gen (fun S' => S.le S' ∧ S'.box b2 = some (mapW w) ∧ S'.box b3 = some (opL o) ∧ S'.box b4 = some (mapW w) ∧ S'.box b5 = some (ansL ⟨refusedO o, false, noBytes, noBytes⟩)) ⟨hle.setBox s5 _, (box_set_ne _ _ n2_5).trans k2, (box_set_ne _ _ n3_5).trans k3, (box_set_ne _ _ n4_5).trans k4, (box_set _ _ _).trans (congrArg some (rfl))⟩ ?_
    clear hle k2 k3 k4 k5
    rintro Ss ⟨hle, k2, k3, k4, k5⟩
    repeat (first | refine LOps.nil ?_ | refine andThen_normal ?_ | refine andThen_exit ?_ | refine andThen_ret ?_ | refine inBlock_normal ?_ | refine inBlock_ret ?_ | refine inBlock_here ?_ | refine inBlock_out rfl ?_ | refine LWp.seq ?_ | refine LWp.region ?_ | refine LWp.block ?_ | refine LWp.exit ?_ | refine LWp.ret ?_ | refine LWp.skip ?_ | refine LOps.valA ?_ | refine LOps.outA ?_ | refine LOps.whenA ?_ | refine LOps.pickA ?_ | refine LOps.storeA ?_)
    exact ⟨_, doRes hP rfl rfl k4 rfl k5, by rw [doA, if_neg hr, doW, if_neg hr], hle⟩
  have h : (refusedO o != 0) = false := h
  have hr : refusedO o = 0 := by simpa using h
  clear h
  repeat (first | refine LOps.valH (LVal.load hD rfl rfl k2 rfl rfl) ?_ | refine LOps.nil ?_ | refine andThen_normal ?_ | refine andThen_exit ?_ | refine andThen_ret ?_ | refine inBlock_normal ?_ | refine inBlock_ret ?_ | refine inBlock_here ?_ | refine inBlock_out rfl ?_ | refine LWp.seq ?_ | refine LWp.region ?_ | refine LWp.block ?_ | refine LWp.exit ?_ | refine LWp.ret ?_ | refine LWp.skip ?_ | refine LOps.val (LVal.call rfl rfl (by rw [hP]; exact Try.func32) rfl (by decide) (c1)) rfl rfl rfl ?_ | refine LOps.whenC (LVal.call rfl rfl (by rw [hP]; exact Try.func32) rfl (by decide) (c1)) ?_ | refine LOps.valA ?_ | refine LOps.outA ?_ | refine LOps.whenA ?_ | refine LOps.pickA ?_ | refine LOps.storeA ?_)
  skip
  refine LOps.do (LDo.alloc hD rfl rfl rfl) rfl rfl rfl ?_
  rintro _ _ ⟨b9, hb9, rfl, rfl⟩
  have n2_9 := fresh_ne hb9 k2
  have m9_2 := n2_9.symm
  have n3_9 := fresh_ne hb9 k3
  have m9_3 := n3_9.symm
  have n4_9 := fresh_ne hb9 k4
  have m9_4 := n4_9.symm
  have n5_9 := fresh_ne hb9 k5
  have m9_5 := n5_9.symm
  have s9 := hle.none hb9
  refine LOps.gen (fun S' => S.le S' ∧ S'.box b2 = some (mapW w) ∧ S'.box b3 = some (opL o) ∧ S'.box b4 = some ([.sl .nil []]) ∧ S'.box b5 = some (ansL noAns) ∧ S'.box b9 = some (ansL noAns)) ⟨hle.newBox hb9 _, (box_new_ne _ _ n2_9).trans k2, (box_new_ne _ _ n3_9).trans k3, (box_new_ne _ _ n4_9).trans k4, (box_new_ne _ _ n5_9).trans k5, box_new _ _ _⟩ ?_
  clear hle hb9 k2 k3 k4 k5
  rintro S9 ⟨hle, k2, k3, k4, k5, k9⟩
  repeat (first | refine LOps.nil ?_ | refine andThen_normal ?_ | refine andThen_exit ?_ | refine andThen_ret ?_ | refine inBlock_normal ?_ | refine inBlock_ret ?_ | refine inBlock_here ?_ | refine inBlock_out rfl ?_ | refine LWp.seq ?_ | refine LWp.region ?_ | refine LWp.block ?_ | refine LWp.exit ?_ | refine LWp.ret ?_ | refine LWp.skip ?_ | refine LOps.valA ?_ | refine LOps.outA ?_ | refine LOps.whenA ?_ | refine LOps.pickA ?_)
  refine LOps.storeA (b := b9) (off := 0) (cs := ansL noAns) (l := ansL ⟨0, hasP l o.key, noBytes, oldP l o.key⟩) ?_
  refine LOps.gen (fun S' => S.le S' ∧ S'.box b2 = some (mapW w) ∧ S'.box b3 = some (opL o) ∧ S'.box b4 = some ([.sl .nil []]) ∧ S'.box b5 = some (ansL noAns) ∧ S'.box b9 = some (ansL ⟨0, hasP l o.key, noBytes, oldP l o.key⟩)) ⟨hle.setBox s9 _, (box_set_ne _ _ n2_9).trans k2, (box_set_ne _ _ n3_9).trans k3, (box_set_ne _ _ n4_9).trans k4, (box_set_ne _ _ n5_9).trans k5, (box_set _ _ _).trans (congrArg some (rfl))⟩ ?_
  clear hle k2 k3 k4 k5 k9
  rintro Ss ⟨hle, k2, k3, k4, k5, k9⟩
  -- the kinds
  have hk6 := refused_kind hr
  have hdoA : doA l o = if o.kind = 1 ∨ o.kind = 2 ∨ o.kind = 3 then ⟨0, hasP l o.key, noBytes, oldP l o.key⟩
    else if o.kind = 4 then ⟨0, doneO l o, noBytes, oldP l o.key⟩
    else if o.kind = 5 then pairA (nextP l o.key o.after)
    else noAns := by rw [doA, if_pos hr]
  have hdoW : doW w o = if o.kind = 2 then withW w o.key o.val
    else if o.kind = 3 then withoutW w o.key
    else if o.kind = 4 then (if doneO l o then withW w o.key o.val else w)
    else if o.kind = 6 then o.writes.foldl stepWW w
    else w := by rw [doW, if_pos hr, done_form ha]
  have cW := withW_F hP w (by omega) o.key o.val
  have cO := withoutW_F hP w (by omega) o.key
  by_cases h1 : o.kind = 1
  · repeat (first | refine LWp.condT rfl ?_ | refine LOps.valH (LVal.to (LVal.binOp hD rfl rfl rfl rfl) (r' := .one (.v (.bool true))) (congrArg (fun b => TV.one (.v (.bool b))) (by first | exact decide_eq_true (by omega) | (rw [beq_iff_eq]; omega) | (rw [bne_iff_ne]; omega)))) ?_ | refine LOps.valH (LVal.to (LVal.binOp hD rfl rfl rfl rfl) (r' := .one (.v (.bool false))) (congrArg (fun b => TV.one (.v (.bool b))) (by first | exact decide_eq_false (by omega) | (rw [beq_eq_false_iff_ne]; omega) | (rw [bne_eq_false_iff_eq]; omega)))) ?_ | refine LOps.valW ?_ | refine LOps.nil ?_ | refine andThen_normal ?_ | refine andThen_exit ?_ | refine andThen_ret ?_ | refine inBlock_normal ?_ | refine inBlock_ret ?_ | refine inBlock_here ?_ | refine inBlock_out rfl ?_ | refine LWp.seq ?_ | refine LWp.region ?_ | refine LWp.block ?_ | refine LWp.exit ?_ | refine LWp.ret ?_ | refine LWp.skip ?_ | refine LOps.valA ?_ | refine LOps.outA ?_ | refine LOps.whenA ?_ | refine LOps.pickA ?_)
    refine LWp.drawX (fun b => b = b4 ∨ b = b5) [0, 1, 2, 3] (by rw [hP]; rfl) rfl ?_
    repeat (first | refine LRl.valH (LVal.to (LVal.load hD rfl rfl k2 rfl rfl) (r' := .agg (mapW w)) rfl) ?_ (fun _ hS => LVal.to (LVal.load hD rfl rfl (hS.box _ _ k2 (by first | exact id | (intro hx; rcases hx with hx | hx <;> omega) | (intro hx; have hx2 : _ = _ := hx; omega) | (intro hx; exact absurd hx.1 (by decide)))) rfl rfl) (r' := .agg (mapW w)) rfl) | refine LRl.valH (LVal.to (LVal.load hD rfl rfl k9 rfl rfl) (r' := .agg (ansL ⟨0, hasP l o.key, noBytes, oldP l o.key⟩)) rfl) ?_ (fun _ hS => LVal.to (LVal.load hD rfl rfl (hS.box _ _ k9 (by first | exact id | (intro hx; rcases hx with hx | hx <;> omega) | (intro hx; have hx2 : _ = _ := hx; omega) | (intro hx; exact absurd hx.1 (by decide)))) rfl rfl) (r' := .agg (ansL ⟨0, hasP l o.key, noBytes, oldP l o.key⟩)) rfl) | refine LRl.nil ?_ | refine LRl.valA ?_ | refine LRl.outA ?_ | refine LRl.whenA ?_ | refine LRl.pickA ?_)
    refine LRl.act0 (LDo.store hD rfl rfl k4 rfl rfl rfl rfl) rfl rfl rfl (by rintro _ _ ⟨_, rfl⟩; exact .inl (.setBox (.inl rfl) _)) ?_
    rintro _ _ ⟨rfl, rfl⟩
    repeat (first | refine LRl.nil ?_ | refine LRl.valA ?_ | refine LRl.outA ?_ | refine LRl.whenA ?_ | refine LRl.pickA ?_)
    refine LRl.act0 (LDo.store hD rfl rfl ((box_set_ne _ _ n4_5.symm).trans k5) rfl rfl rfl rfl) rfl rfl rfl (by rintro _ _ ⟨_, rfl⟩; exact .inl (.setBox (.inr rfl) _)) ?_
    rintro _ _ ⟨rfl, rfl⟩
    repeat (first | refine LRl.nil ?_ | refine LRl.valA ?_ | refine LRl.outA ?_ | refine LRl.whenA ?_ | refine LRl.pickA ?_)
    repeat (first | refine LOps.nil ?_ | refine andThen_normal ?_ | refine andThen_exit ?_ | refine andThen_ret ?_ | refine inBlock_normal ?_ | refine inBlock_ret ?_ | refine inBlock_here ?_ | refine inBlock_out rfl ?_ | refine LWp.seq ?_ | refine LWp.region ?_ | refine LWp.block ?_ | refine LWp.exit ?_ | refine LWp.ret ?_ | refine LWp.skip ?_ | refine LOps.valA ?_ | refine LOps.outA ?_ | refine LOps.whenA ?_ | refine LOps.pickA ?_ | refine LOps.storeA ?_)
    exact ⟨_, doRes hP rfl rfl ((box_set_ne _ _ n4_5).trans (box_set _ _ _)) rfl ((box_set _ _ _).trans (congrArg some (show _ = ansL ⟨0, hasP l o.key, noBytes, oldP l o.key⟩ from rfl))), by rw [hdoA, if_pos (by omega), hdoW, if_neg (by omega), if_neg (by omega), if_neg (by omega), if_neg (by omega)], (hle.setBox s4 _).setBox s5 _⟩
  by_cases h2 : o.kind = 2
  · repeat (first | refine LWp.condT rfl ?_ | refine LWp.condF rfl ?_ | refine LOps.valH (LVal.to (LVal.binOp hD rfl rfl rfl rfl) (r' := .one (.v (.bool true))) (congrArg (fun b => TV.one (.v (.bool b))) (by first | exact decide_eq_true (by omega) | (rw [beq_iff_eq]; omega) | (rw [bne_iff_ne]; omega)))) ?_ | refine LOps.valH (LVal.to (LVal.binOp hD rfl rfl rfl rfl) (r' := .one (.v (.bool false))) (congrArg (fun b => TV.one (.v (.bool b))) (by first | exact decide_eq_false (by omega) | (rw [beq_eq_false_iff_ne]; omega) | (rw [bne_eq_false_iff_eq]; omega)))) ?_ | refine LOps.valW ?_ | refine LOps.nil ?_ | refine andThen_normal ?_ | refine andThen_exit ?_ | refine andThen_ret ?_ | refine inBlock_normal ?_ | refine inBlock_ret ?_ | refine inBlock_here ?_ | refine inBlock_out rfl ?_ | refine LWp.seq ?_ | refine LWp.region ?_ | refine LWp.block ?_ | refine LWp.exit ?_ | refine LWp.ret ?_ | refine LWp.skip ?_ | refine LOps.valA ?_ | refine LOps.outA ?_ | refine LOps.whenA ?_ | refine LOps.pickA ?_)
    refine LWp.drawX (fun b => b = b4 ∨ b = b5) [0, 1, 2, 3, 4, 5, 6, 7, 8] (by rw [hP]; rfl) rfl ?_
    repeat (first | refine LRl.valH (LVal.to (LVal.load hD rfl rfl k2 rfl rfl) (r' := .agg (mapW w)) rfl) ?_ (fun _ hS => LVal.to (LVal.load hD rfl rfl (hS.box _ _ k2 (by first | exact id | (intro hx; rcases hx with hx | hx <;> omega) | (intro hx; have hx2 : _ = _ := hx; omega) | (intro hx; exact absurd hx.1 (by decide)))) rfl rfl) (r' := .agg (mapW w)) rfl) | refine LRl.valH (LVal.to (LVal.load hD rfl rfl k9 rfl rfl) (r' := .agg (ansL ⟨0, hasP l o.key, noBytes, oldP l o.key⟩)) rfl) ?_ (fun _ hS => LVal.to (LVal.load hD rfl rfl (hS.box _ _ k9 (by first | exact id | (intro hx; rcases hx with hx | hx <;> omega) | (intro hx; have hx2 : _ = _ := hx; omega) | (intro hx; exact absurd hx.1 (by decide)))) rfl rfl) (r' := .agg (ansL ⟨0, hasP l o.key, noBytes, oldP l o.key⟩)) rfl) | refine LRl.valH (LVal.load hD rfl rfl k3 rfl rfl) ?_ (fun _ hS => LVal.load hD rfl rfl (hS.box _ _ k3 (by first | exact id | (intro hx; rcases hx with hx | hx <;> omega) | (intro hx; have hx2 : _ = _ := hx; omega) | (intro hx; exact absurd hx.1 (by decide)))) rfl rfl) | refine LRl.valC (fun _ => (LVal.call rfl rfl (by rw [hP]; exact Try.func26) rfl (by decide) (cW))) ?_ | refine LRl.whenC (fun _ => (LVal.call rfl rfl (by rw [hP]; exact Try.func26) rfl (by decide) (cW))) ?_ | refine LRl.nil ?_ | refine LRl.valA ?_ | refine LRl.outA ?_ | refine LRl.whenA ?_ | refine LRl.pickA ?_)
    refine LRl.act0 (LDo.store hD rfl rfl k4 rfl rfl rfl rfl) rfl rfl rfl (by rintro _ _ ⟨_, rfl⟩; exact .inl (.setBox (.inl rfl) _)) ?_
    rintro _ _ ⟨rfl, rfl⟩
    repeat (first | refine LRl.nil ?_ | refine LRl.valA ?_ | refine LRl.outA ?_ | refine LRl.whenA ?_ | refine LRl.pickA ?_)
    refine LRl.act0 (LDo.store hD rfl rfl ((box_set_ne _ _ n4_5.symm).trans k5) rfl rfl rfl rfl) rfl rfl rfl (by rintro _ _ ⟨_, rfl⟩; exact .inl (.setBox (.inr rfl) _)) ?_
    rintro _ _ ⟨rfl, rfl⟩
    repeat (first | refine LRl.nil ?_ | refine LRl.valA ?_ | refine LRl.outA ?_ | refine LRl.whenA ?_ | refine LRl.pickA ?_)
    repeat (first | refine LOps.nil ?_ | refine andThen_normal ?_ | refine andThen_exit ?_ | refine andThen_ret ?_ | refine inBlock_normal ?_ | refine inBlock_ret ?_ | refine inBlock_here ?_ | refine inBlock_out rfl ?_ | refine LWp.seq ?_ | refine LWp.region ?_ | refine LWp.block ?_ | refine LWp.exit ?_ | refine LWp.ret ?_ | refine LWp.skip ?_ | refine LOps.valA ?_ | refine LOps.outA ?_ | refine LOps.whenA ?_ | refine LOps.pickA ?_ | refine LOps.storeA ?_)
    exact ⟨_, doRes hP rfl rfl ((box_set_ne _ _ n4_5).trans (box_set _ _ _)) rfl ((box_set _ _ _).trans (congrArg some (show _ = ansL ⟨0, hasP l o.key, noBytes, oldP l o.key⟩ from rfl))), by rw [hdoA, if_pos (by omega), hdoW, if_pos h2], (hle.setBox s4 _).setBox s5 _⟩
  by_cases h3 : o.kind = 3
  · repeat (first | refine LWp.condT rfl ?_ | refine LWp.condF rfl ?_ | refine LOps.valH (LVal.to (LVal.binOp hD rfl rfl rfl rfl) (r' := .one (.v (.bool true))) (congrArg (fun b => TV.one (.v (.bool b))) (by first | exact decide_eq_true (by omega) | (rw [beq_iff_eq]; omega) | (rw [bne_iff_ne]; omega)))) ?_ | refine LOps.valH (LVal.to (LVal.binOp hD rfl rfl rfl rfl) (r' := .one (.v (.bool false))) (congrArg (fun b => TV.one (.v (.bool b))) (by first | exact decide_eq_false (by omega) | (rw [beq_eq_false_iff_ne]; omega) | (rw [bne_eq_false_iff_eq]; omega)))) ?_ | refine LOps.valW ?_ | refine LOps.nil ?_ | refine andThen_normal ?_ | refine andThen_exit ?_ | refine andThen_ret ?_ | refine inBlock_normal ?_ | refine inBlock_ret ?_ | refine inBlock_here ?_ | refine inBlock_out rfl ?_ | refine LWp.seq ?_ | refine LWp.region ?_ | refine LWp.block ?_ | refine LWp.exit ?_ | refine LWp.ret ?_ | refine LWp.skip ?_ | refine LOps.valA ?_ | refine LOps.outA ?_ | refine LOps.whenA ?_ | refine LOps.pickA ?_)
    refine LWp.drawX (fun b => b = b4 ∨ b = b5) [0, 1, 2, 3, 4, 5, 6] (by rw [hP]; rfl) rfl ?_
    repeat (first | refine LRl.valH (LVal.to (LVal.load hD rfl rfl k2 rfl rfl) (r' := .agg (mapW w)) rfl) ?_ (fun _ hS => LVal.to (LVal.load hD rfl rfl (hS.box _ _ k2 (by first | exact id | (intro hx; rcases hx with hx | hx <;> omega) | (intro hx; have hx2 : _ = _ := hx; omega) | (intro hx; exact absurd hx.1 (by decide)))) rfl rfl) (r' := .agg (mapW w)) rfl) | refine LRl.valH (LVal.to (LVal.load hD rfl rfl k9 rfl rfl) (r' := .agg (ansL ⟨0, hasP l o.key, noBytes, oldP l o.key⟩)) rfl) ?_ (fun _ hS => LVal.to (LVal.load hD rfl rfl (hS.box _ _ k9 (by first | exact id | (intro hx; rcases hx with hx | hx <;> omega) | (intro hx; have hx2 : _ = _ := hx; omega) | (intro hx; exact absurd hx.1 (by decide)))) rfl rfl) (r' := .agg (ansL ⟨0, hasP l o.key, noBytes, oldP l o.key⟩)) rfl) | refine LRl.valH (LVal.load hD rfl rfl k3 rfl rfl) ?_ (fun _ hS => LVal.load hD rfl rfl (hS.box _ _ k3 (by first | exact id | (intro hx; rcases hx with hx | hx <;> omega) | (intro hx; have hx2 : _ = _ := hx; omega) | (intro hx; exact absurd hx.1 (by decide)))) rfl rfl) | refine LRl.valC (fun _ => (LVal.call rfl rfl (by rw [hP]; exact Try.func33) rfl (by decide) (cO))) ?_ | refine LRl.whenC (fun _ => (LVal.call rfl rfl (by rw [hP]; exact Try.func33) rfl (by decide) (cO))) ?_ | refine LRl.nil ?_ | refine LRl.valA ?_ | refine LRl.outA ?_ | refine LRl.whenA ?_ | refine LRl.pickA ?_)
    refine LRl.act0 (LDo.store hD rfl rfl k4 rfl rfl rfl rfl) rfl rfl rfl (by rintro _ _ ⟨_, rfl⟩; exact .inl (.setBox (.inl rfl) _)) ?_
    rintro _ _ ⟨rfl, rfl⟩
    repeat (first | refine LRl.nil ?_ | refine LRl.valA ?_ | refine LRl.outA ?_ | refine LRl.whenA ?_ | refine LRl.pickA ?_)
    refine LRl.act0 (LDo.store hD rfl rfl ((box_set_ne _ _ n4_5.symm).trans k5) rfl rfl rfl rfl) rfl rfl rfl (by rintro _ _ ⟨_, rfl⟩; exact .inl (.setBox (.inr rfl) _)) ?_
    rintro _ _ ⟨rfl, rfl⟩
    repeat (first | refine LRl.nil ?_ | refine LRl.valA ?_ | refine LRl.outA ?_ | refine LRl.whenA ?_ | refine LRl.pickA ?_)
    repeat (first | refine LOps.nil ?_ | refine andThen_normal ?_ | refine andThen_exit ?_ | refine andThen_ret ?_ | refine inBlock_normal ?_ | refine inBlock_ret ?_ | refine inBlock_here ?_ | refine inBlock_out rfl ?_ | refine LWp.seq ?_ | refine LWp.region ?_ | refine LWp.block ?_ | refine LWp.exit ?_ | refine LWp.ret ?_ | refine LWp.skip ?_ | refine LOps.valA ?_ | refine LOps.outA ?_ | refine LOps.whenA ?_ | refine LOps.pickA ?_ | refine LOps.storeA ?_)
    exact ⟨_, doRes hP rfl rfl ((box_set_ne _ _ n4_5).trans (box_set _ _ _)) rfl ((box_set _ _ _).trans (congrArg some (show _ = ansL ⟨0, hasP l o.key, noBytes, oldP l o.key⟩ from rfl))), by rw [hdoA, if_pos (by omega), hdoW, if_neg h2, if_pos h3], (hle.setBox s4 _).setBox s5 _⟩
  by_cases h4 : o.kind = 4
  · repeat (first | refine LWp.condT rfl ?_ | refine LWp.condF rfl ?_ | refine LOps.valH (LVal.to (LVal.binOp hD rfl rfl rfl rfl) (r' := .one (.v (.bool true))) (congrArg (fun b => TV.one (.v (.bool b))) (by first | exact decide_eq_true (by omega) | (rw [beq_iff_eq]; omega) | (rw [bne_iff_ne]; omega)))) ?_ | refine LOps.valH (LVal.to (LVal.binOp hD rfl rfl rfl rfl) (r' := .one (.v (.bool false))) (congrArg (fun b => TV.one (.v (.bool b))) (by first | exact decide_eq_false (by omega) | (rw [beq_eq_false_iff_ne]; omega) | (rw [bne_eq_false_iff_eq]; omega)))) ?_ | refine LOps.valW ?_ | refine LOps.nil ?_ | refine andThen_normal ?_ | refine andThen_exit ?_ | refine andThen_ret ?_ | refine inBlock_normal ?_ | refine inBlock_ret ?_ | refine inBlock_here ?_ | refine inBlock_out rfl ?_ | refine LWp.seq ?_ | refine LWp.region ?_ | refine LWp.block ?_ | refine LWp.exit ?_ | refine LWp.ret ?_ | refine LWp.skip ?_ | refine LOps.valA ?_ | refine LOps.outA ?_ | refine LOps.whenA ?_ | refine LOps.pickA ?_)
    refine LOps.storeA (b := b9) (off := 1) (cs := ansL ⟨0, hasP l o.key, noBytes, oldP l o.key⟩) (l := [bv false]) ?_
    refine LOps.gen (fun S' => S.le S' ∧ S'.box b2 = some (mapW w) ∧ S'.box b3 = some (opL o) ∧ S'.box b4 = some ([.sl .nil []]) ∧ S'.box b5 = some (ansL noAns) ∧ S'.box b9 = some (ansL ⟨0, false, noBytes, oldP l o.key⟩)) ⟨hle.setBox s9 _, (box_set_ne _ _ n2_9).trans k2, (box_set_ne _ _ n3_9).trans k3, (box_set_ne _ _ n4_9).trans k4, (box_set_ne _ _ n5_9).trans k5, (box_set _ _ _).trans (congrArg some (rfl))⟩ ?_
    clear hle k2 k3 k4 k5 k9
    rintro Ss ⟨hle, k2, k3, k4, k5, k9⟩
    repeat (first | refine LOps.nil ?_ | refine andThen_normal ?_ | refine andThen_exit ?_ | refine andThen_ret ?_ | refine inBlock_normal ?_ | refine inBlock_ret ?_ | refine inBlock_here ?_ | refine inBlock_out rfl ?_ | refine LWp.seq ?_ | refine LWp.region ?_ | refine LWp.block ?_ | refine LWp.exit ?_ | refine LWp.ret ?_ | refine LWp.skip ?_ | refine LOps.valA ?_ | refine LOps.outA ?_ | refine LOps.whenA ?_ | refine LOps.pickA ?_)
    refine LWp.cond rfl (fun h => ?_) (fun h => ?_)
    · have h : (((o.had && hasP l o.key) && decide (oldP l o.key = o.old)) || (!o.had && !hasP l o.key)) = true := h
      rw [← ha.has, ← ha.old, done_form ha] at h
      repeat (first | refine LOps.nil ?_ | refine andThen_normal ?_ | refine andThen_exit ?_ | refine andThen_ret ?_ | refine inBlock_normal ?_ | refine inBlock_ret ?_ | refine inBlock_here ?_ | refine inBlock_out rfl ?_ | refine LWp.seq ?_ | refine LWp.region ?_ | refine LWp.block ?_ | refine LWp.exit ?_ | refine LWp.ret ?_ | refine LWp.skip ?_ | refine LOps.valA ?_ | refine LOps.outA ?_ | refine LOps.whenA ?_ | refine LOps.pickA ?_)
      refine LOps.storeA (b := b9) (off := 1) (cs := ansL ⟨0, false, noBytes, oldP l o.key⟩) (l := [bv true]) ?_
      refine LOps.gen (fun S' => S.le S' ∧ S'.box b2 = some (mapW w) ∧ S'.box b3 = some (opL o) ∧ S'.box b4 = some ([.sl .nil []]) ∧ S'.box b5 = some (ansL noAns) ∧ S'.box b9 = some (ansL ⟨0, true, noBytes, oldP l o.key⟩)) ⟨hle.setBox s9 _, (box_set_ne _ _ n2_9).trans k2, (box_set_ne _ _ n3_9).trans k3, (box_set_ne _ _ n4_9).trans k4, (box_set_ne _ _ n5_9).trans k5, (box_set _ _ _).trans (congrArg some (rfl))⟩ ?_
      clear hle k2 k3 k4 k5 k9
      rintro Ss ⟨hle, k2, k3, k4, k5, k9⟩
      repeat (first | refine LOps.valH (LVal.to (LVal.load hD rfl rfl k2 rfl rfl) (r' := .agg (mapW w)) rfl) ?_ | refine LOps.valH (LVal.load hD rfl rfl k3 rfl rfl) ?_ | refine LOps.nil ?_ | refine andThen_normal ?_ | refine andThen_exit ?_ | refine andThen_ret ?_ | refine inBlock_normal ?_ | refine inBlock_ret ?_ | refine inBlock_here ?_ | refine inBlock_out rfl ?_ | refine LWp.seq ?_ | refine LWp.region ?_ | refine LWp.block ?_ | refine LWp.exit ?_ | refine LWp.ret ?_ | refine LWp.skip ?_ | refine LOps.val (LVal.call rfl rfl (by rw [hP]; exact Try.func26) rfl (by decide) (cW)) rfl rfl rfl ?_ | refine LOps.whenC (LVal.call rfl rfl (by rw [hP]; exact Try.func26) rfl (by decide) (cW)) ?_ | refine LOps.valA ?_ | refine LOps.outA ?_ | refine LOps.whenA ?_ | refine LOps.pickA ?_)
      refine LOps.storeA (b := b2) (off := 0) (cs := mapW w) (l := mapW (withW w o.key o.val)) ?_
      refine LOps.gen (fun S' => S.le S' ∧ S'.box b2 = some (mapW (withW w o.key o.val)) ∧ S'.box b3 = some (opL o) ∧ S'.box b4 = some ([.sl .nil []]) ∧ S'.box b5 = some (ansL noAns) ∧ S'.box b9 = some (ansL ⟨0, true, noBytes, oldP l o.key⟩)) ⟨hle.setBox s2 _, (box_set _ _ _).trans (congrArg some (rfl)), (box_set_ne _ _ m3_2).trans k3, (box_set_ne _ _ m4_2).trans k4, (box_set_ne _ _ m5_2).trans k5, (box_set_ne _ _ m9_2).trans k9⟩ ?_
      clear hle k2 k3 k4 k5 k9
      rintro Ss ⟨hle, k2, k3, k4, k5, k9⟩
      repeat (first | refine LOps.nil ?_ | refine andThen_normal ?_ | refine andThen_exit ?_ | refine andThen_ret ?_ | refine inBlock_normal ?_ | refine inBlock_ret ?_ | refine inBlock_here ?_ | refine inBlock_out rfl ?_ | refine LWp.seq ?_ | refine LWp.region ?_ | refine LWp.block ?_ | refine LWp.exit ?_ | refine LWp.ret ?_ | refine LWp.skip ?_ | refine LOps.valA ?_ | refine LOps.outA ?_ | refine LOps.whenA ?_ | refine LOps.pickA ?_ | refine LOps.storeA ?_)
      refine LWp.drawX (fun b => b = b4 ∨ b = b5) [0, 1, 2, 3] (by rw [hP]; rfl) rfl ?_
      repeat (first | refine LRl.valH (LVal.to (LVal.load hD rfl rfl k2 rfl rfl) (r' := .agg (mapW (withW w o.key o.val))) rfl) ?_ (fun _ hS => LVal.to (LVal.load hD rfl rfl (hS.box _ _ k2 (by first | exact id | (intro hx; rcases hx with hx | hx <;> omega) | (intro hx; have hx2 : _ = _ := hx; omega) | (intro hx; exact absurd hx.1 (by decide)))) rfl rfl) (r' := .agg (mapW (withW w o.key o.val))) rfl) | refine LRl.valH (LVal.to (LVal.load hD rfl rfl k9 rfl rfl) (r' := .agg (ansL ⟨0, true, noBytes, oldP l o.key⟩)) rfl) ?_ (fun _ hS => LVal.to (LVal.load hD rfl rfl (hS.box _ _ k9 (by first | exact id | (intro hx; rcases hx with hx | hx <;> omega) | (intro hx; have hx2 : _ = _ := hx; omega) | (intro hx; exact absurd hx.1 (by decide)))) rfl rfl) (r' := .agg (ansL ⟨0, true, noBytes, oldP l o.key⟩)) rfl) | refine LRl.nil ?_ | refine LRl.valA ?_ | refine LRl.outA ?_ | refine LRl.whenA ?_ | refine LRl.pickA ?_)
      refine LRl.act0 (LDo.store hD rfl rfl k4 rfl rfl rfl rfl) rfl rfl rfl (by rintro _ _ ⟨_, rfl⟩; exact .inl (.setBox (.inl rfl) _)) ?_
      rintro _ _ ⟨rfl, rfl⟩
      repeat (first | refine LRl.nil ?_ | refine LRl.valA ?_ | refine LRl.outA ?_ | refine LRl.whenA ?_ | refine LRl.pickA ?_)
      refine LRl.act0 (LDo.store hD rfl rfl ((box_set_ne _ _ n4_5.symm).trans k5) rfl rfl rfl rfl) rfl rfl rfl (by rintro _ _ ⟨_, rfl⟩; exact .inl (.setBox (.inr rfl) _)) ?_
      rintro _ _ ⟨rfl, rfl⟩
      repeat (first | refine LRl.nil ?_ | refine LRl.valA ?_ | refine LRl.outA ?_ | refine LRl.whenA ?_ | refine LRl.pickA ?_)
      repeat (first | refine LOps.nil ?_ | refine andThen_normal ?_ | refine andThen_exit ?_ | refine andThen_ret ?_ | refine inBlock_normal ?_ | refine inBlock_ret ?_ | refine inBlock_here ?_ | refine inBlock_out rfl ?_ | refine LWp.seq ?_ | refine LWp.region ?_ | refine LWp.block ?_ | refine LWp.exit ?_ | refine LWp.ret ?_ | refine LWp.skip ?_ | refine LOps.valA ?_ | refine LOps.outA ?_ | refine LOps.whenA ?_ | refine LOps.pickA ?_ | refine LOps.storeA ?_)
      exact ⟨_, doRes hP rfl rfl ((box_set_ne _ _ n4_5).trans (box_set _ _ _)) rfl ((box_set _ _ _).trans (congrArg some (show _ = ansL ⟨0, true, noBytes, oldP l o.key⟩ from rfl))), by rw [hdoA, if_neg (by omega), if_pos h4, hdoW, if_neg h2, if_neg h3, if_pos h4, if_pos h, h], (hle.setBox s4 _).setBox s5 _⟩
    · have h : (((o.had && hasP l o.key) && decide (oldP l o.key = o.old)) || (!o.had && !hasP l o.key)) = false := h
      rw [← ha.has, ← ha.old, done_form ha] at h
      repeat (first | refine LOps.nil ?_ | refine andThen_normal ?_ | refine andThen_exit ?_ | refine andThen_ret ?_ | refine inBlock_normal ?_ | refine inBlock_ret ?_ | refine inBlock_here ?_ | refine inBlock_out rfl ?_ | refine LWp.seq ?_ | refine LWp.region ?_ | refine LWp.block ?_ | refine LWp.exit ?_ | refine LWp.ret ?_ | refine LWp.skip ?_ | refine LOps.valA ?_ | refine LOps.outA ?_ | refine LOps.whenA ?_ | refine LOps.pickA ?_ | refine LOps.storeA ?_)
      refine LWp.drawX (fun b => b = b4 ∨ b = b5) [0, 1, 2, 3] (by rw [hP]; rfl) rfl ?_
      repeat (first | refine LRl.valH (LVal.to (LVal.load hD rfl rfl k2 rfl rfl) (r' := .agg (mapW w)) rfl) ?_ (fun _ hS => LVal.to (LVal.load hD rfl rfl (hS.box _ _ k2 (by first | exact id | (intro hx; rcases hx with hx | hx <;> omega) | (intro hx; have hx2 : _ = _ := hx; omega) | (intro hx; exact absurd hx.1 (by decide)))) rfl rfl) (r' := .agg (mapW w)) rfl) | refine LRl.valH (LVal.to (LVal.load hD rfl rfl k9 rfl rfl) (r' := .agg (ansL ⟨0, false, noBytes, oldP l o.key⟩)) rfl) ?_ (fun _ hS => LVal.to (LVal.load hD rfl rfl (hS.box _ _ k9 (by first | exact id | (intro hx; rcases hx with hx | hx <;> omega) | (intro hx; have hx2 : _ = _ := hx; omega) | (intro hx; exact absurd hx.1 (by decide)))) rfl rfl) (r' := .agg (ansL ⟨0, false, noBytes, oldP l o.key⟩)) rfl) | refine LRl.nil ?_ | refine LRl.valA ?_ | refine LRl.outA ?_ | refine LRl.whenA ?_ | refine LRl.pickA ?_)
      refine LRl.act0 (LDo.store hD rfl rfl k4 rfl rfl rfl rfl) rfl rfl rfl (by rintro _ _ ⟨_, rfl⟩; exact .inl (.setBox (.inl rfl) _)) ?_
      rintro _ _ ⟨rfl, rfl⟩
      repeat (first | refine LRl.nil ?_ | refine LRl.valA ?_ | refine LRl.outA ?_ | refine LRl.whenA ?_ | refine LRl.pickA ?_)
      refine LRl.act0 (LDo.store hD rfl rfl ((box_set_ne _ _ n4_5.symm).trans k5) rfl rfl rfl rfl) rfl rfl rfl (by rintro _ _ ⟨_, rfl⟩; exact .inl (.setBox (.inr rfl) _)) ?_
      rintro _ _ ⟨rfl, rfl⟩
      repeat (first | refine LRl.nil ?_ | refine LRl.valA ?_ | refine LRl.outA ?_ | refine LRl.whenA ?_ | refine LRl.pickA ?_)
      repeat (first | refine LOps.nil ?_ | refine andThen_normal ?_ | refine andThen_exit ?_ | refine andThen_ret ?_ | refine inBlock_normal ?_ | refine inBlock_ret ?_ | refine inBlock_here ?_ | refine inBlock_out rfl ?_ | refine LWp.seq ?_ | refine LWp.region ?_ | refine LWp.block ?_ | refine LWp.exit ?_ | refine LWp.ret ?_ | refine LWp.skip ?_ | refine LOps.valA ?_ | refine LOps.outA ?_ | refine LOps.whenA ?_ | refine LOps.pickA ?_ | refine LOps.storeA ?_)
      exact ⟨_, doRes hP rfl rfl ((box_set_ne _ _ n4_5).trans (box_set _ _ _)) rfl ((box_set _ _ _).trans (congrArg some (show _ = ansL ⟨0, false, noBytes, oldP l o.key⟩ from rfl))), by rw [hdoA, if_neg (by omega), if_pos h4, hdoW, if_neg h2, if_neg h3, if_pos h4, if_neg (by rw [h]; decide), h], (hle.setBox s4 _).setBox s5 _⟩
  by_cases h5 : o.kind = 5
  · have cN := nextW_F hP w (by omega) hs o.key hk o.after
    rw [ha.next] at cN
    repeat (first | refine LWp.condT rfl ?_ | refine LWp.condF rfl ?_ | refine LOps.valH (LVal.to (LVal.binOp hD rfl rfl rfl rfl) (r' := .one (.v (.bool true))) (congrArg (fun b => TV.one (.v (.bool b))) (by first | exact decide_eq_true (by omega) | (rw [beq_iff_eq]; omega) | (rw [bne_iff_ne]; omega)))) ?_ | refine LOps.valH (LVal.to (LVal.binOp hD rfl rfl rfl rfl) (r' := .one (.v (.bool false))) (congrArg (fun b => TV.one (.v (.bool b))) (by first | exact decide_eq_false (by omega) | (rw [beq_eq_false_iff_ne]; omega) | (rw [bne_eq_false_iff_eq]; omega)))) ?_ | refine LOps.valW ?_ | refine LOps.nil ?_ | refine andThen_normal ?_ | refine andThen_exit ?_ | refine andThen_ret ?_ | refine inBlock_normal ?_ | refine inBlock_ret ?_ | refine inBlock_here ?_ | refine inBlock_out rfl ?_ | refine LWp.seq ?_ | refine LWp.region ?_ | refine LWp.block ?_ | refine LWp.exit ?_ | refine LWp.ret ?_ | refine LWp.skip ?_ | refine LOps.valA ?_ | refine LOps.outA ?_ | refine LOps.whenA ?_ | refine LOps.pickA ?_)
    refine LWp.drawX (fun b => b = b4 ∨ b = b5) [0, 1, 2, 3, 4, 5, 6, 7, 8] (by rw [hP]; rfl) rfl ?_
    repeat (first | refine LRl.valH (LVal.to (LVal.load hD rfl rfl k2 rfl rfl) (r' := .agg (mapW w)) rfl) ?_ (fun _ hS => LVal.to (LVal.load hD rfl rfl (hS.box _ _ k2 (by first | exact id | (intro hx; rcases hx with hx | hx <;> omega) | (intro hx; have hx2 : _ = _ := hx; omega) | (intro hx; exact absurd hx.1 (by decide)))) rfl rfl) (r' := .agg (mapW w)) rfl) | refine LRl.valH (LVal.load hD rfl rfl k3 rfl rfl) ?_ (fun _ hS => LVal.load hD rfl rfl (hS.box _ _ k3 (by first | exact id | (intro hx; rcases hx with hx | hx <;> omega) | (intro hx; have hx2 : _ = _ := hx; omega) | (intro hx; exact absurd hx.1 (by decide)))) rfl rfl) | refine LRl.valC (fun _ => (LVal.call rfl rfl (by rw [hP]; exact Try.func28) rfl (by decide) (cN))) ?_ | refine LRl.whenC (fun _ => (LVal.call rfl rfl (by rw [hP]; exact Try.func28) rfl (by decide) (cN))) ?_ | refine LRl.nil ?_ | refine LRl.valA ?_ | refine LRl.outA ?_ | refine LRl.whenA ?_ | refine LRl.pickA ?_)
    refine LRl.act0 (LDo.store hD rfl rfl k4 rfl rfl rfl rfl) rfl rfl rfl (by rintro _ _ ⟨_, rfl⟩; exact .inl (.setBox (.inl rfl) _)) ?_
    rintro _ _ ⟨rfl, rfl⟩
    repeat (first | refine LRl.nil ?_ | refine LRl.valA ?_ | refine LRl.outA ?_ | refine LRl.whenA ?_ | refine LRl.pickA ?_)
    refine LRl.act0 (LDo.store hD rfl rfl ((box_set_ne _ _ n4_5.symm).trans k5) rfl rfl rfl rfl) rfl rfl rfl (by rintro _ _ ⟨_, rfl⟩; exact .inl (.setBox (.inr rfl) _)) ?_
    rintro _ _ ⟨rfl, rfl⟩
    repeat (first | refine LRl.nil ?_ | refine LRl.valA ?_ | refine LRl.outA ?_ | refine LRl.whenA ?_ | refine LRl.pickA ?_)
    repeat (first | refine LOps.nil ?_ | refine andThen_normal ?_ | refine andThen_exit ?_ | refine andThen_ret ?_ | refine inBlock_normal ?_ | refine inBlock_ret ?_ | refine inBlock_here ?_ | refine inBlock_out rfl ?_ | refine LWp.seq ?_ | refine LWp.region ?_ | refine LWp.block ?_ | refine LWp.exit ?_ | refine LWp.ret ?_ | refine LWp.skip ?_ | refine LOps.valA ?_ | refine LOps.outA ?_ | refine LOps.whenA ?_ | refine LOps.pickA ?_ | refine LOps.storeA ?_)
    exact ⟨_, doRes hP rfl rfl ((box_set_ne _ _ n4_5).trans (box_set _ _ _)) rfl ((box_set _ _ _).trans (congrArg some (show _ = ansL (pairA (nextP l o.key o.after)) from rfl))), by rw [hdoA, if_neg (by omega), if_neg h4, if_pos h5, hdoW, if_neg h2, if_neg h3, if_neg h4, if_neg (by omega)], (hle.setBox s4 _).setBox s5 _⟩
  have h6 : o.kind = 6 := by omega
  repeat (first | refine LWp.condF rfl ?_ | refine LOps.valH (LVal.to (LVal.binOp hD rfl rfl rfl rfl) (r' := .one (.v (.bool true))) (congrArg (fun b => TV.one (.v (.bool b))) (by first | exact decide_eq_true (by omega) | (rw [beq_iff_eq]; omega) | (rw [bne_iff_ne]; omega)))) ?_ | refine LOps.valH (LVal.to (LVal.binOp hD rfl rfl rfl rfl) (r' := .one (.v (.bool false))) (congrArg (fun b => TV.one (.v (.bool b))) (by first | exact decide_eq_false (by omega) | (rw [beq_eq_false_iff_ne]; omega) | (rw [bne_eq_false_iff_eq]; omega)))) ?_ | refine LOps.valW ?_ | refine LOps.nil ?_ | refine andThen_normal ?_ | refine andThen_exit ?_ | refine andThen_ret ?_ | refine inBlock_normal ?_ | refine inBlock_ret ?_ | refine inBlock_here ?_ | refine inBlock_out rfl ?_ | refine LWp.seq ?_ | refine LWp.region ?_ | refine LWp.block ?_ | refine LWp.exit ?_ | refine LWp.ret ?_ | refine LWp.skip ?_ | refine LOps.valA ?_ | refine LOps.outA ?_ | refine LOps.whenA ?_ | refine LOps.pickA ?_)
  refine LWp.loop (fun m T S' => ∃ (T' : Nat → TV) (j : Nat), j ≤ o.writes.length ∧ m = o.writes.length - j ∧ S.le S' ∧ S'.box b2 = some (mapW ((o.writes.take j).foldl stepWW w)) ∧ S'.box b3 = some (opL o) ∧ S'.box b4 = some [.sl .nil []] ∧ S'.box b5 = some (ansL noAns) ∧
    T = over T' [(2, ptr b2), (3, ptr b3), (4, ptr b4), (5, ptr b5), (10, .one (iv (j : Nat)))]) o.writes.length ?_ ?_
  · exact ⟨_, 0, by omega, by omega, hle, k2, k3, k4, k5, holds.over ⟨rfl, rfl, rfl, rfl, rfl, trivial⟩⟩
  clear hle k2 k3 k4 k5 k9 c0 c1 cW cO
  rintro m T S1 ⟨T', j, hj, rfl, hle, k2, k3, k4, k5, rfl⟩
  have hlen := stepsWW_length (o.writes.take j) w
  rw [List.length_take] at hlen
  repeat (first | refine LOps.nil ?_ | refine andThen_normal ?_ | refine andThen_exit ?_ | refine andThen_ret ?_ | refine inBlock_normal ?_ | refine inBlock_ret ?_ | refine inBlock_here ?_ | refine inBlock_out rfl ?_ | refine LWp.seq ?_ | refine LWp.region ?_ | refine LWp.block ?_ | refine LWp.exit ?_ | refine LWp.ret ?_ | refine LWp.skip ?_ | refine LOps.valA ?_ | refine LOps.outA ?_ | refine LOps.whenA ?_ | refine LOps.pickA ?_ | refine LOps.storeA ?_)
  refine LWp.cond rfl (fun h => ?_) (fun h => ?_)
  · have hlt : j < o.writes.length := by simp at h; omega
    repeat (first | refine LOps.nil ?_ | refine andThen_normal ?_ | refine andThen_exit ?_ | refine andThen_ret ?_ | refine inBlock_normal ?_ | refine inBlock_ret ?_ | refine inBlock_here ?_ | refine inBlock_out rfl ?_ | refine LWp.seq ?_ | refine LWp.region ?_ | refine LWp.block ?_ | refine LWp.exit ?_ | refine LWp.ret ?_ | refine LWp.skip ?_ | refine LOps.valA ?_ | refine LOps.outA ?_ | refine LOps.whenA ?_ | refine LOps.pickA ?_)
    skip
    refine LOps.do (LDo.alloc hD rfl rfl rfl) rfl rfl rfl ?_
    rintro _ _ ⟨b11, hb11, rfl, rfl⟩
    have n2_11 := fresh_ne hb11 k2
    have m11_2 := n2_11.symm
    have n3_11 := fresh_ne hb11 k3
    have m11_3 := n3_11.symm
    have n4_11 := fresh_ne hb11 k4
    have m11_4 := n4_11.symm
    have n5_11 := fresh_ne hb11 k5
    have m11_5 := n5_11.symm
    have s11 := hle.none hb11
    refine LOps.gen (fun S' => S.le S' ∧ S'.box b2 = some (mapW ((o.writes.take j).foldl stepWW w)) ∧ S'.box b3 = some (opL o) ∧ S'.box b4 = some ([.sl .nil []]) ∧ S'.box b5 = some (ansL noAns) ∧ S'.box b11 = some ([sv noBytes, sv noBytes, bv false])) ⟨hle.newBox hb11 _, (box_new_ne _ _ n2_11).trans k2, (box_new_ne _ _ n3_11).trans k3, (box_new_ne _ _ n4_11).trans k4, (box_new_ne _ _ n5_11).trans k5, box_new _ _ _⟩ ?_
    clear hle hb11 k2 k3 k4 k5
    rintro S11 ⟨hle, k2, k3, k4, k5, k11⟩
    repeat (first | refine LOps.nil ?_ | refine andThen_normal ?_ | refine andThen_exit ?_ | refine andThen_ret ?_ | refine inBlock_normal ?_ | refine inBlock_ret ?_ | refine inBlock_here ?_ | refine inBlock_out rfl ?_ | refine LWp.seq ?_ | refine LWp.region ?_ | refine LWp.block ?_ | refine LWp.exit ?_ | refine LWp.ret ?_ | refine LWp.skip ?_ | refine LOps.valA ?_ | refine LOps.outA ?_ | refine LOps.whenA ?_ | refine LOps.pickA ?_)
    refine LOps.storeA (b := b11) (off := 0) (cs := [sv noBytes, sv noBytes, bv false]) (l := wrL o.writes[j]) ?_
    refine LOps.gen (fun S' => S.le S' ∧ S'.box b2 = some (mapW ((o.writes.take j).foldl stepWW w)) ∧ S'.box b3 = some (opL o) ∧ S'.box b4 = some ([.sl .nil []]) ∧ S'.box b5 = some (ansL noAns) ∧ S'.box b11 = some (wrL o.writes[j])) ⟨hle.setBox s11 _, (box_set_ne _ _ n2_11).trans k2, (box_set_ne _ _ n3_11).trans k3, (box_set_ne _ _ n4_11).trans k4, (box_set_ne _ _ n5_11).trans k5, (box_set _ _ _).trans (congrArg some (rfl))⟩ ?_
    clear hle k2 k3 k4 k5 k11
    rintro Ss ⟨hle, k2, k3, k4, k5, k11⟩
    repeat (first | refine LOps.nil ?_ | refine andThen_normal ?_ | refine andThen_exit ?_ | refine andThen_ret ?_ | refine inBlock_normal ?_ | refine inBlock_ret ?_ | refine inBlock_here ?_ | refine inBlock_out rfl ?_ | refine LWp.seq ?_ | refine LWp.region ?_ | refine LWp.block ?_ | refine LWp.exit ?_ | refine LWp.ret ?_ | refine LWp.skip ?_ | refine LOps.valA ?_ | refine LOps.outA ?_ | refine LOps.whenA ?_ | refine LOps.pickA ?_)
    refine LWp.cond rfl (fun hg => ?_) (fun hg => ?_)
    · have hg : o.writes[j].gone = true := hg
      have c3 := withoutW_F hP ((o.writes.take j).foldl stepWW w) (by omega) o.writes[j].key
      repeat (first | refine LOps.valH (LVal.to (LVal.load hD rfl rfl k2 rfl rfl) (r' := .agg (mapW ((o.writes.take j).foldl stepWW w))) rfl) ?_ | refine LOps.nil ?_ | refine andThen_normal ?_ | refine andThen_exit ?_ | refine andThen_ret ?_ | refine inBlock_normal ?_ | refine inBlock_ret ?_ | refine inBlock_here ?_ | refine inBlock_out rfl ?_ | refine LWp.seq ?_ | refine LWp.region ?_ | refine LWp.block ?_ | refine LWp.exit ?_ | refine LWp.ret ?_ | refine LWp.skip ?_ | refine LOps.val (LVal.call rfl rfl (by rw [hP]; exact Try.func33) rfl (by decide) (c3)) rfl rfl rfl ?_ | refine LOps.whenC (LVal.call rfl rfl (by rw [hP]; exact Try.func33) rfl (by decide) (c3)) ?_ | refine LOps.valA ?_ | refine LOps.outA ?_ | refine LOps.whenA ?_ | refine LOps.pickA ?_)
      refine LOps.storeA (b := b2) (off := 0) (cs := mapW ((o.writes.take j).foldl stepWW w)) (l := mapW (withoutW ((o.writes.take j).foldl stepWW w) o.writes[j].key)) ?_
      refine LOps.gen (fun S' => S.le S' ∧ S'.box b2 = some (mapW (withoutW ((o.writes.take j).foldl stepWW w) o.writes[j].key)) ∧ S'.box b3 = some (opL o) ∧ S'.box b4 = some ([.sl .nil []]) ∧ S'.box b5 = some (ansL noAns) ∧ S'.box b11 = some (wrL o.writes[j])) ⟨hle.setBox s2 _, (box_set _ _ _).trans (congrArg some (rfl)), (box_set_ne _ _ m3_2).trans k3, (box_set_ne _ _ m4_2).trans k4, (box_set_ne _ _ m5_2).trans k5, (box_set_ne _ _ m11_2).trans k11⟩ ?_
      clear hle k2 k3 k4 k5 k11
      rintro Ss ⟨hle, k2, k3, k4, k5, k11⟩
      repeat (first | refine LOps.nil ?_ | refine andThen_normal ?_ | refine andThen_exit ?_ | refine andThen_ret ?_ | refine inBlock_normal ?_ | refine inBlock_ret ?_ | refine inBlock_here ?_ | refine inBlock_out rfl ?_ | refine LWp.seq ?_ | refine LWp.region ?_ | refine LWp.block ?_ | refine LWp.exit ?_ | refine LWp.ret ?_ | refine LWp.skip ?_ | refine LOps.valA ?_ | refine LOps.outA ?_ | refine LOps.whenA ?_ | refine LOps.pickA ?_ | refine LOps.storeA ?_)
      exact ⟨o.writes.length - (j + 1), by omega, _, j + 1, by omega, rfl, hle, by rw [stepsWW_take hlt, stepWW, if_pos hg]; exact k2, k3, k4, k5, holds.over ⟨rfl, rfl, rfl, rfl, rfl, trivial⟩⟩
    · have hg : o.writes[j].gone = false := hg
      have c3 := withW_F hP ((o.writes.take j).foldl stepWW w) (by omega) o.writes[j].key o.writes[j].val
      repeat (first | refine LOps.valH (LVal.to (LVal.load hD rfl rfl k2 rfl rfl) (r' := .agg (mapW ((o.writes.take j).foldl stepWW w))) rfl) ?_ | refine LOps.nil ?_ | refine andThen_normal ?_ | refine andThen_exit ?_ | refine andThen_ret ?_ | refine inBlock_normal ?_ | refine inBlock_ret ?_ | refine inBlock_here ?_ | refine inBlock_out rfl ?_ | refine LWp.seq ?_ | refine LWp.region ?_ | refine LWp.block ?_ | refine LWp.exit ?_ | refine LWp.ret ?_ | refine LWp.skip ?_ | refine LOps.val (LVal.call rfl rfl (by rw [hP]; exact Try.func26) rfl (by decide) (c3)) rfl rfl rfl ?_ | refine LOps.whenC (LVal.call rfl rfl (by rw [hP]; exact Try.func26) rfl (by decide) (c3)) ?_ | refine LOps.valA ?_ | refine LOps.outA ?_ | refine LOps.whenA ?_ | refine LOps.pickA ?_)
      refine LOps.storeA (b := b2) (off := 0) (cs := mapW ((o.writes.take j).foldl stepWW w)) (l := mapW (withW ((o.writes.take j).foldl stepWW w) o.writes[j].key o.writes[j].val)) ?_
      refine LOps.gen (fun S' => S.le S' ∧ S'.box b2 = some (mapW (withW ((o.writes.take j).foldl stepWW w) o.writes[j].key o.writes[j].val)) ∧ S'.box b3 = some (opL o) ∧ S'.box b4 = some ([.sl .nil []]) ∧ S'.box b5 = some (ansL noAns) ∧ S'.box b11 = some (wrL o.writes[j])) ⟨hle.setBox s2 _, (box_set _ _ _).trans (congrArg some (rfl)), (box_set_ne _ _ m3_2).trans k3, (box_set_ne _ _ m4_2).trans k4, (box_set_ne _ _ m5_2).trans k5, (box_set_ne _ _ m11_2).trans k11⟩ ?_
      clear hle k2 k3 k4 k5 k11
      rintro Ss ⟨hle, k2, k3, k4, k5, k11⟩
      repeat (first | refine LOps.nil ?_ | refine andThen_normal ?_ | refine andThen_exit ?_ | refine andThen_ret ?_ | refine inBlock_normal ?_ | refine inBlock_ret ?_ | refine inBlock_here ?_ | refine inBlock_out rfl ?_ | refine LWp.seq ?_ | refine LWp.region ?_ | refine LWp.block ?_ | refine LWp.exit ?_ | refine LWp.ret ?_ | refine LWp.skip ?_ | refine LOps.valA ?_ | refine LOps.outA ?_ | refine LOps.whenA ?_ | refine LOps.pickA ?_ | refine LOps.storeA ?_)
      exact ⟨o.writes.length - (j + 1), by omega, _, j + 1, by omega, rfl, hle, by rw [stepsWW_take hlt, stepWW, if_neg (by rw [hg]; decide)]; exact k2, k3, k4, k5, holds.over ⟨rfl, rfl, rfl, rfl, rfl, trivial⟩⟩
  · have hge : j = o.writes.length := by simp at h; omega
    subst hge
    rw [List.take_length] at k2
    repeat (first | refine LOps.valH (LVal.to (LVal.load hD rfl rfl k2 rfl rfl) (r' := .agg (mapW (o.writes.foldl stepWW w))) rfl) ?_ | refine LOps.nil ?_ | refine andThen_normal ?_ | refine andThen_exit ?_ | refine andThen_ret ?_ | refine inBlock_normal ?_ | refine inBlock_ret ?_ | refine inBlock_here ?_ | refine inBlock_out rfl ?_ | refine LWp.seq ?_ | refine LWp.region ?_ | refine LWp.block ?_ | refine LWp.exit ?_ | refine LWp.ret ?_ | refine LWp.skip ?_ | refine LOps.valA ?_ | refine LOps.outA ?_ | refine LOps.whenA ?_ | refine LOps.pickA ?_)
    refine LOps.storeA (b := b4) (off := 0) (cs := [.sl .nil []]) (l := mapW (o.writes.foldl stepWW w)) ?_
    refine LOps.gen (fun S' => S.le S' ∧ S'.box b2 = some (mapW (o.writes.foldl stepWW w)) ∧ S'.box b3 = some (opL o) ∧ S'.box b4 = some (mapW (o.writes.foldl stepWW w)) ∧ S'.box b5 = some (ansL noAns)) ⟨hle.setBox s4 _, (box_set_ne _ _ n2_4).trans k2, (box_set_ne _ _ n3_4).trans k3, (box_set _ _ _).trans (congrArg some (rfl)), (box_set_ne _ _ m5_4).trans k5⟩ ?_
    clear hle k2 k3 k4 k5
    rintro Ss ⟨hle, k2, k3, k4, k5⟩
    refine LOps.storeA (b := b5) (off := 0) (cs := ansL noAns) (l := ansL noAns) ?_
    refine LOps.gen (fun S' => S.le S' ∧ S'.box b2 = some (mapW (o.writes.foldl stepWW w)) ∧ S'.box b3 = some (opL o) ∧ S'.box b4 = some (mapW (o.writes.foldl stepWW w)) ∧ S'.box b5 = some (ansL noAns)) ⟨hle.setBox s5 _, (box_set_ne _ _ n2_5).trans k2, (box_set_ne _ _ n3_5).trans k3, (box_set_ne _ _ n4_5).trans k4, (box_set _ _ _).trans (congrArg some (rfl))⟩ ?_
    clear hle k2 k3 k4 k5
    rintro Ss ⟨hle, k2, k3, k4, k5⟩
    repeat (first | refine LOps.nil ?_ | refine andThen_normal ?_ | refine andThen_exit ?_ | refine andThen_ret ?_ | refine inBlock_normal ?_ | refine inBlock_ret ?_ | refine inBlock_here ?_ | refine inBlock_out rfl ?_ | refine LWp.seq ?_ | refine LWp.region ?_ | refine LWp.block ?_ | refine LWp.exit ?_ | refine LWp.ret ?_ | refine LWp.skip ?_ | refine LOps.valA ?_ | refine LOps.outA ?_ | refine LOps.whenA ?_ | refine LOps.pickA ?_ | refine LOps.storeA ?_)
    exact ⟨_, doRes hP rfl rfl k4 rfl k5, by rw [hdoA, if_neg (by omega), if_neg h4, if_neg h5, hdoW, if_neg h2, if_neg h3, if_neg h4, if_pos h6], hle⟩
end Go.Proofs.Ytndcdmmmfplbbaa.LF
