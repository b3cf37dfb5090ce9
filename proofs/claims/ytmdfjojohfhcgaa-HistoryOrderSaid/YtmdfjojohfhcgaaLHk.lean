/- find, State, Ahead: the program's and the document's. -/
import Derived.Test.YtmdfjojohfhcgaaLHj
set_option linter.unusedVariables false
set_option linter.unusedSimpArgs false
namespace Go.Proofs.Ytmdfjojohfhcgaa.LF
open Go.RowKit

def noEv : Ev := ⟨0, 0, noOp, noAns⟩
def findE (l : List Ev) (k id : Int) : Ev := (l.find? (isEv k id)).getD noEv
def hasE (l : List Ev) (k id : Int) : Bool := (l.find? (isEv k id)).isSome

theorem find_of_idx {p : Ev → Bool} : ∀ {l : List Ev} {i : Nat}, l.findIdx? p = some i → ∃ h : i < l.length, l.find? p = some l[i] := by
  intro l i h
  rw [List.findIdx?_eq_some_iff_getElem] at h
  obtain ⟨h1, h2, h3⟩ := h
  refine ⟨h1, ?_⟩
  have h4 : (l.take i ++ l.drop i).find? p = some l[i] := by
    rw [List.find?_append, List.find?_eq_none.2 (fun e he => ?_), Option.none_or, List.drop_eq_getElem_cons h1, List.find?_cons_of_pos h2]
    rw [List.mem_take_iff_getElem] at he
    obtain ⟨j, hj, rfl⟩ := he
    exact h3 j (by omega)
  rwa [List.take_append_drop] at h4
theorem find_of_none {p : Ev → Bool} {l : List Ev} (h : l.findIdx? p = none) : l.find? p = none := by
  rw [List.findIdx?_eq_none_iff] at h
  exact List.find?_eq_none.2 fun e he => by rw [h e he]; simp

set_option maxHeartbeats 4000000 in
theorem find_F {G : Ctx} (hP : G.P = Try.prog) (l : List Ev) (hl : l.length ≤ 1000000) (k id : Int) : LFun G 38 [.one (.sl .sh (l.map evL)), .one (uv k), .one (iv id)] (.tup [.agg (evL (findE l k id)), .one (bv (hasE l k id))]) := LFun.of fun S => by
  have hD : TabOK G.P D := by rw [hP]; exact hD0
  refine LCalls.enter (fn := Try.f38) (by rw [hP]; exact Try.func38) rfl rfl ?_
  repeat (first | refine LOps.nil ?_ | refine andThen_normal ?_ | refine andThen_exit ?_ | refine andThen_ret ?_ | refine inBlock_normal ?_ | refine inBlock_ret ?_ | refine inBlock_here ?_ | refine inBlock_out rfl ?_ | refine LWp.seq ?_ | refine LWp.region ?_ | refine LWp.block ?_ | refine LWp.exit ?_ | refine LWp.ret ?_ | refine LWp.skip ?_ | refine LOps.valA ?_ | refine LOps.outA ?_ | refine LOps.whenA ?_ | refine LOps.pickA ?_ | refine LOps.storeA ?_)
  refine LOps.do (LDo.box rfl rfl) rfl rfl rfl ?_
  rintro _ _ ⟨b4, hb4, rfl, rfl⟩
  repeat (first | refine LOps.nil ?_ | refine andThen_normal ?_ | refine andThen_exit ?_ | refine andThen_ret ?_ | refine inBlock_normal ?_ | refine inBlock_ret ?_ | refine inBlock_here ?_ | refine inBlock_out rfl ?_ | refine LWp.seq ?_ | refine LWp.region ?_ | refine LWp.block ?_ | refine LWp.exit ?_ | refine LWp.ret ?_ | refine LWp.skip ?_ | refine LOps.valA ?_ | refine LOps.outA ?_ | refine LOps.whenA ?_ | refine LOps.pickA ?_ | refine LOps.storeA ?_)
  refine LOps.do (LDo.box rfl rfl) rfl rfl rfl ?_
  rintro _ _ ⟨b5, hb5, rfl, rfl⟩
  have n45 : b4 ≠ b5 := fresh_ne hb5 (box_new _ _ _)
  repeat (first | refine LOps.nil ?_ | refine andThen_normal ?_ | refine andThen_exit ?_ | refine andThen_ret ?_ | refine inBlock_normal ?_ | refine inBlock_ret ?_ | refine inBlock_here ?_ | refine inBlock_out rfl ?_ | refine LWp.seq ?_ | refine LWp.region ?_ | refine LWp.block ?_ | refine LWp.exit ?_ | refine LWp.ret ?_ | refine LWp.skip ?_ | refine LOps.valA ?_ | refine LOps.outA ?_ | refine LOps.whenA ?_ | refine LOps.pickA ?_ | refine LOps.storeA ?_)
  refine LOps.do (LDo.alloc hD rfl rfl rfl) rfl rfl rfl ?_
  rintro _ _ ⟨b6, hb6, rfl, rfl⟩
  have hf6 := hb6
  refine LOps.gen (fun S1 => S.le S1 ∧ S1.box b4 = some [uv k] ∧ S1.box b5 = some [iv id] ∧ S1.box b6 = some (lzero ti34)) ⟨((LS.le.newBox (.refl _) hb4 _).newBox hb5 _).newBox hb6 _, ?_, ?_, box_new _ _ _⟩ ?_
  · exact (box_new_ne _ _ (fresh_ne hb6 ((box_new_ne _ _ n45).trans (box_new _ _ _)))).trans ((box_new_ne _ _ n45).trans (box_new _ _ _))
  · exact (box_new_ne _ _ (fresh_ne hb6 (box_new _ _ _))).trans (box_new _ _ _)
  have s6 : S.box b6 = none := LS.le.none ((LS.le.newBox (.refl _) hb4 _).newBox hb5 _) hf6
  clear hb4 hb5 hb6 hf6
  rintro S1 ⟨le1, k4, k5, k6⟩
  have hi := index_L hP 40 Try.f40 (by rw [hP]; exact Try.func40) rfl (by decide) [.pointer (some ⟨b4, 0, none⟩), .pointer (some ⟨b5, 0, none⟩)] rfl (isEv k id) l hl S1 (find1_P hP b4 b5 k id S1 k4 k5)
  repeat (first | refine LOps.val (LVal.makeFunc (vs := [.pointer (some ⟨b4, 0, none⟩), .pointer (some ⟨b5, 0, none⟩)]) rfl rfl) rfl rfl rfl ?_ | refine LOps.nil ?_ | refine andThen_normal ?_ | refine andThen_exit ?_ | refine andThen_ret ?_ | refine inBlock_normal ?_ | refine inBlock_ret ?_ | refine inBlock_here ?_ | refine inBlock_out rfl ?_ | refine LWp.seq ?_ | refine LWp.region ?_ | refine LWp.block ?_ | refine LWp.exit ?_ | refine LWp.ret ?_ | refine LWp.skip ?_ | refine LOps.valA ?_ | refine LOps.outA ?_ | refine LOps.whenA ?_ | refine LOps.pickA ?_ | refine LOps.storeA ?_)
  cases hq : l.findIdx? (isEv k id) with
  | none =>
    have h2 := find_of_none hq
    rw [show idxS (isEv k id) l = -1 by simp [idxS, hq]] at hi
    refine LOps.do (LDo.callF hi (by rw [hP]; exact Try.func34)) rfl rfl rfl ?_
    rintro _ _ ⟨rfl, rfl⟩
    repeat (first | refine LOps.nil ?_ | refine andThen_normal ?_ | refine andThen_exit ?_ | refine andThen_ret ?_ | refine inBlock_normal ?_ | refine inBlock_ret ?_ | refine inBlock_here ?_ | refine inBlock_out rfl ?_ | refine LWp.seq ?_ | refine LWp.region ?_ | refine LWp.block ?_ | refine LWp.exit ?_ | refine LWp.ret ?_ | refine LWp.skip ?_ | refine LOps.valA ?_ | refine LOps.outA ?_ | refine LOps.whenA ?_ | refine LOps.pickA ?_ | refine LOps.storeA ?_)
    refine LWp.condT rfl ?_
    repeat (first | refine LOps.nil ?_ | refine andThen_normal ?_ | refine andThen_exit ?_ | refine andThen_ret ?_ | refine inBlock_normal ?_ | refine inBlock_ret ?_ | refine inBlock_here ?_ | refine inBlock_out rfl ?_ | refine LWp.seq ?_ | refine LWp.region ?_ | refine LWp.block ?_ | refine LWp.exit ?_ | refine LWp.ret ?_ | refine LWp.skip ?_ | refine LOps.valA ?_ | refine LOps.outA ?_ | refine LOps.whenA ?_ | refine LOps.pickA ?_ | refine LOps.storeA ?_)
    refine ⟨_, LRes.sh (LRes.many rfl rfl (.cons (.cell rfl (box_set _ _ _) (hP ▸ tok34) rfl) (.cons (.tmp 7) .nil))), ?_, le1.setBox s6 _⟩
    simp only [findE, hasE, h2]; rfl
  | some i =>
    obtain ⟨hlt, h2⟩ := find_of_idx hq
    rw [show idxS (isEv k id) l = (i : Int) by simp [idxS, hq]] at hi
    refine LOps.do (LDo.callF hi (by rw [hP]; exact Try.func34)) rfl rfl rfl ?_
    rintro _ _ ⟨rfl, rfl⟩
    repeat (first | refine LOps.nil ?_ | refine andThen_normal ?_ | refine andThen_exit ?_ | refine andThen_ret ?_ | refine inBlock_normal ?_ | refine inBlock_ret ?_ | refine inBlock_here ?_ | refine inBlock_out rfl ?_ | refine LWp.seq ?_ | refine LWp.region ?_ | refine LWp.block ?_ | refine LWp.exit ?_ | refine LWp.ret ?_ | refine LWp.skip ?_ | refine LOps.valA ?_ | refine LOps.outA ?_ | refine LOps.whenA ?_ | refine LOps.pickA ?_ | refine LOps.storeA ?_)
    refine LWp.cond rfl (fun h => ?_) (fun h => ?_)
    · have := of_decide_eq_true h; omega
    repeat (first | refine LOps.nil ?_ | refine andThen_normal ?_ | refine andThen_exit ?_ | refine andThen_ret ?_ | refine inBlock_normal ?_ | refine inBlock_ret ?_ | refine inBlock_here ?_ | refine inBlock_out rfl ?_ | refine LWp.seq ?_ | refine LWp.region ?_ | refine LWp.block ?_ | refine LWp.exit ?_ | refine LWp.ret ?_ | refine LWp.skip ?_ | refine LOps.valA ?_ | refine LOps.outA ?_ | refine LOps.whenA ?_ | refine LOps.pickA ?_ | refine LOps.storeA ?_)
    refine ⟨_, LRes.sh (LRes.many rfl rfl (.cons (.cell rfl (box_set _ _ _) (hP ▸ tok34) rfl) (.cons (.tmp 7) .nil))), ?_, le1.setBox s6 _⟩
    simp only [findE, hasE, h2]; rfl

def stN (a b c : Bool) : Int := if !a then 0 else if !b then 1 else if !c then 2 else 3
def stateT (l : List Ev) (id : Int) : TV := .tup [.agg (opL (findE l 1 id).op), .agg (ansL (findE l 2 id).ans), .one (iv (stN (hasE l 1 id) (hasE l 2 id) (hasE l 3 id)))]

theorem findE_ws {l : List Ev} {n : Nat} (h : ∀ e ∈ l, e.op.writes.length ≤ n) (k id : Int) : (findE l k id).op.writes.length ≤ n := by
  unfold findE
  cases hq : l.find? (isEv k id) with
  | none => simp [noEv, noOp]
  | some e => exact h e (List.mem_of_find?_eq_some hq)

set_option maxHeartbeats 8000000 in
theorem state_F {G : Ctx} (hP : G.P = Try.prog) (l : List Ev) (hl : l.length ≤ 1000000) (hw : ∀ e ∈ l, e.op.writes.length ≤ 1000000) (id : Int) : LFun G 23 [.one (.sl .sh (l.map evL)), .one (iv id)] (stateT l id) := LFun.of fun S => by
  have hD : TabOK G.P D := by rw [hP]; exact hD0
  have f1 := find_F hP l hl 1 id
  have f2 := find_F hP l hl 2 id
  have f3 := find_F hP l hl 3 id
  have hown := own_F hP (findE l 1 id).op (findE_ws hw 1 id)
  obtain ⟨B1, hB1⟩ : ∃ b, b = hasE l 1 id := ⟨_, rfl⟩
  obtain ⟨B2, hB2⟩ : ∃ b, b = hasE l 2 id := ⟨_, rfl⟩
  obtain ⟨B3, hB3⟩ : ∃ b, b = hasE l 3 id := ⟨_, rfl⟩
  rw [← hB1] at f1
  rw [← hB2] at f2
  rw [← hB3] at f3
  refine LCalls.enter (fn := Try.f23) (by rw [hP]; exact Try.func23) rfl rfl ?_
  repeat (first | refine LOps.nil ?_ | refine andThen_normal ?_ | refine andThen_exit ?_ | refine andThen_ret ?_ | refine inBlock_normal ?_ | refine inBlock_ret ?_ | refine inBlock_here ?_ | refine inBlock_out rfl ?_ | refine LWp.seq ?_ | refine LWp.region ?_ | refine LWp.block ?_ | refine LWp.exit ?_ | refine LWp.ret ?_ | refine LWp.skip ?_ | refine LOps.valA ?_ | refine LOps.outA ?_ | refine LOps.whenA ?_ | refine LOps.pickA ?_ | refine LOps.storeA ?_)
  refine LOps.do (LDo.alloc hD rfl rfl rfl) rfl rfl rfl ?_
  rintro _ _ ⟨b4, hb4, rfl, rfl⟩
  refine LOps.do (LDo.alloc hD rfl rfl rfl) rfl rfl rfl ?_
  rintro _ _ ⟨b5, hb5, rfl, rfl⟩
  have n45 : b4 ≠ b5 := fresh_ne hb5 (box_new _ _ _)
  have s4 : S.box b4 = none := hb4.box
  have s5 : S.box b5 = none := LS.le.none (LS.le.newBox (.refl _) hb4 _) hb5
  refine LOps.gen (fun S1 => S.le S1 ∧ S1.box b4 = some (lzero ti29) ∧ S1.box b5 = some (lzero ti32)) ⟨(LS.le.newBox (.refl _) hb4 _).newBox hb5 _, (box_new_ne _ _ n45).trans (box_new _ _ _), box_new _ _ _⟩ ?_
  clear hb4 hb5
  rintro S1 ⟨le1, k4, k5⟩
  repeat (first | refine LOps.nil ?_ | refine andThen_normal ?_ | refine andThen_exit ?_ | refine andThen_ret ?_ | refine inBlock_normal ?_ | refine inBlock_ret ?_ | refine inBlock_here ?_ | refine inBlock_out rfl ?_ | refine LWp.seq ?_ | refine LWp.region ?_ | refine LWp.block ?_ | refine LWp.exit ?_ | refine LWp.ret ?_ | refine LWp.skip ?_ | refine LOps.val (LVal.call rfl rfl (by rw [hP]; exact Try.func38) rfl (by decide) (f1)) rfl rfl rfl ?_ | refine LOps.whenC (LVal.call rfl rfl (by rw [hP]; exact Try.func38) rfl (by decide) (f1)) ?_ | refine LOps.valA ?_ | refine LOps.outA ?_ | refine LOps.whenA ?_ | refine LOps.pickA ?_ | refine LOps.storeA ?_)
  refine LOps.do (LDo.alloc hD rfl rfl rfl) rfl rfl rfl ?_
  rintro _ _ ⟨b7, hb7, rfl, rfl⟩
  have n47 := fresh_ne hb7 k4
  have n57 := fresh_ne hb7 k5
  have s7 := le1.none hb7
  repeat (first | refine LOps.gen (fun S2 => S.le S2 ∧ S2.box b4 = some (lzero ti29) ∧ S2.box b5 = some (lzero ti32) ∧ S2.box b7 = some (evL (findE l 1 id))) ⟨(le1.newBox hb7 _).setBox s7 _, (box_set_ne _ _ n47).trans ((box_new_ne _ _ n47).trans k4), (box_set_ne _ _ n57).trans ((box_new_ne _ _ n57).trans k5), box_set _ _ _⟩ ?_ | refine LOps.nil ?_ | refine andThen_normal ?_ | refine andThen_exit ?_ | refine andThen_ret ?_ | refine inBlock_normal ?_ | refine inBlock_ret ?_ | refine inBlock_here ?_ | refine inBlock_out rfl ?_ | refine LWp.seq ?_ | refine LWp.region ?_ | refine LWp.block ?_ | refine LWp.exit ?_ | refine LWp.ret ?_ | refine LWp.skip ?_ | refine LOps.valA ?_ | refine LOps.outA ?_ | refine LOps.whenA ?_ | refine LOps.pickA ?_ | refine LOps.storeA ?_)
  clear hb7 k4 k5 le1 S1
  rintro S2 ⟨le2, k4, k5, k7⟩
  repeat (first | refine LOps.nil ?_ | refine andThen_normal ?_ | refine andThen_exit ?_ | refine andThen_ret ?_ | refine inBlock_normal ?_ | refine inBlock_ret ?_ | refine inBlock_here ?_ | refine inBlock_out rfl ?_ | refine LWp.seq ?_ | refine LWp.region ?_ | refine LWp.block ?_ | refine LWp.exit ?_ | refine LWp.ret ?_ | refine LWp.skip ?_ | refine LOps.val (LVal.call rfl rfl (by rw [hP]; exact Try.func38) rfl (by decide) (f2)) rfl rfl rfl ?_ | refine LOps.whenC (LVal.call rfl rfl (by rw [hP]; exact Try.func38) rfl (by decide) (f2)) ?_ | refine LOps.valA ?_ | refine LOps.outA ?_ | refine LOps.whenA ?_ | refine LOps.pickA ?_ | refine LOps.storeA ?_)
  refine LOps.do (LDo.alloc hD rfl rfl rfl) rfl rfl rfl ?_
  rintro _ _ ⟨b9, hb9, rfl, rfl⟩
  have n49 := fresh_ne hb9 k4
  have n59 := fresh_ne hb9 k5
  have n79 := fresh_ne hb9 k7
  have s9 := le2.none hb9
  repeat (first | refine LOps.gen (fun S3 => S.le S3 ∧ S3.box b4 = some (lzero ti29) ∧ S3.box b5 = some (lzero ti32) ∧ S3.box b7 = some (evL (findE l 1 id)) ∧ S3.box b9 = some (evL (findE l 2 id))) ⟨(le2.newBox hb9 _).setBox s9 _, (box_set_ne _ _ n49).trans ((box_new_ne _ _ n49).trans k4), (box_set_ne _ _ n59).trans ((box_new_ne _ _ n59).trans k5), (box_set_ne _ _ n79).trans ((box_new_ne _ _ n79).trans k7), box_set _ _ _⟩ ?_ | refine LOps.nil ?_ | refine andThen_normal ?_ | refine andThen_exit ?_ | refine andThen_ret ?_ | refine inBlock_normal ?_ | refine inBlock_ret ?_ | refine inBlock_here ?_ | refine inBlock_out rfl ?_ | refine LWp.seq ?_ | refine LWp.region ?_ | refine LWp.block ?_ | refine LWp.exit ?_ | refine LWp.ret ?_ | refine LWp.skip ?_ | refine LOps.valA ?_ | refine LOps.outA ?_ | refine LOps.whenA ?_ | refine LOps.pickA ?_ | refine LOps.storeA ?_)
  clear hb9 k4 k5 k7 le2 S2
  rintro S3 ⟨le3, k4, k5, k7, k9⟩
  repeat (first | refine LOps.nil ?_ | refine andThen_normal ?_ | refine andThen_exit ?_ | refine andThen_ret ?_ | refine inBlock_normal ?_ | refine inBlock_ret ?_ | refine inBlock_here ?_ | refine inBlock_out rfl ?_ | refine LWp.seq ?_ | refine LWp.region ?_ | refine LWp.block ?_ | refine LWp.exit ?_ | refine LWp.ret ?_ | refine LWp.skip ?_ | refine LOps.val (LVal.call rfl rfl (by rw [hP]; exact Try.func38) rfl (by decide) (f3)) rfl rfl rfl ?_ | refine LOps.whenC (LVal.call rfl rfl (by rw [hP]; exact Try.func38) rfl (by decide) (f3)) ?_ | refine LOps.valA ?_ | refine LOps.outA ?_ | refine LOps.whenA ?_ | refine LOps.pickA ?_ | refine LOps.storeA ?_)
  refine LOps.do (LDo.alloc hD rfl rfl rfl) rfl rfl rfl ?_
  rintro _ _ ⟨b11, hb11, rfl, rfl⟩
  have n411 := fresh_ne hb11 k4
  have n511 := fresh_ne hb11 k5
  have n711 := fresh_ne hb11 k7
  have n911 := fresh_ne hb11 k9
  have s11 := le3.none hb11
  repeat (first | refine LOps.gen (fun S3 => S.le S3 ∧ S3.box b4 = some (lzero ti29) ∧ S3.box b5 = some (lzero ti32) ∧ S3.box b7 = some (evL (findE l 1 id)) ∧ S3.box b9 = some (evL (findE l 2 id))) ⟨(le3.newBox hb11 _).setBox s11 _, (box_set_ne _ _ n411).trans ((box_new_ne _ _ n411).trans k4), (box_set_ne _ _ n511).trans ((box_new_ne _ _ n511).trans k5), (box_set_ne _ _ n711).trans ((box_new_ne _ _ n711).trans k7), (box_set_ne _ _ n911).trans ((box_new_ne _ _ n911).trans k9)⟩ ?_ | refine LOps.nil ?_ | refine andThen_normal ?_ | refine andThen_exit ?_ | refine andThen_ret ?_ | refine inBlock_normal ?_ | refine inBlock_ret ?_ | refine inBlock_here ?_ | refine inBlock_out rfl ?_ | refine LWp.seq ?_ | refine LWp.region ?_ | refine LWp.block ?_ | refine LWp.exit ?_ | refine LWp.ret ?_ | refine LWp.skip ?_ | refine LOps.valA ?_ | refine LOps.outA ?_ | refine LOps.whenA ?_ | refine LOps.pickA ?_ | refine LOps.storeA ?_)
  clear hb11 k4 k5 k7 k9 le3 S3
  rintro S3 ⟨le3, k4, k5, k7, k9⟩
  repeat (first | refine LWp.seq (LWp.cut 4 (fun T' S' => S' = S3 ∧ ∃ T'', T' = over T'' [(4, .one (.v (.pointer (some ⟨b4, 0, none⟩)))), (5, .one (.v (.pointer (some ⟨b5, 0, none⟩)))), (6, .one (iv (stN B1 B2 B3))), (7, .one (.v (.pointer (some ⟨b7, 0, none⟩)))), (9, .one (.v (.pointer (some ⟨b9, 0, none⟩))))]) rfl ?_ ?_) | refine LOps.nil ?_ | refine andThen_normal ?_ | refine andThen_exit ?_ | refine andThen_ret ?_ | refine inBlock_normal ?_ | refine inBlock_ret ?_ | refine inBlock_here ?_ | refine inBlock_out rfl ?_ | refine LWp.seq ?_ | refine LWp.region ?_ | refine LWp.block ?_ | refine LWp.exit ?_ | refine LWp.ret ?_ | refine LWp.skip ?_ | refine LOps.valA ?_ | refine LOps.outA ?_ | refine LOps.whenA ?_ | refine LOps.pickA ?_ | refine LOps.storeA ?_)
  · repeat (first | refine LOps.val (LVal.buildArr hD rfl rfl rfl rfl rfl rfl rfl) rfl rfl rfl ?_ | refine LOps.nil ?_ | refine andThen_normal ?_ | refine andThen_exit ?_ | refine andThen_ret ?_ | refine inBlock_normal ?_ | refine inBlock_ret ?_ | refine inBlock_here ?_ | refine inBlock_out rfl ?_ | refine LWp.seq ?_ | refine LWp.region ?_ | refine LWp.block ?_ | refine LWp.exit ?_ | refine LWp.ret ?_ | refine LWp.skip ?_ | refine LOps.valA ?_ | refine LOps.outA ?_ | refine LOps.whenA ?_ | refine LOps.pickA ?_ | refine LOps.storeA ?_)
    refine LWp.loop (fun k T S' => S' = S3 ∧ ∃ T' j, j ≤ 3 ∧ k = 3 - j ∧ (1 ≤ j → B1 = true) ∧ (2 ≤ j → B2 = true) ∧ (3 ≤ j → B3 = true) ∧ T = over T' [(4, .one (.v (.pointer (some ⟨b4, 0, none⟩)))), (5, .one (.v (.pointer (some ⟨b5, 0, none⟩)))), (6, .one (iv (j : Nat))), (7, .one (.v (.pointer (some ⟨b7, 0, none⟩)))), (9, .one (.v (.pointer (some ⟨b9, 0, none⟩)))), (36, .agg [bv B1, bv B2, bv B3]), (37, .one (iv (j : Nat)))]) 3 ?_ ?_
    · exact ⟨rfl, _, 0, by omega, by omega, by omega, by omega, by omega, holds.over ⟨rfl, rfl, rfl, rfl, rfl, rfl, rfl, trivial⟩⟩
    rintro k T S' ⟨rfl, T', j, hj, rfl, j1, j2, j3, rfl⟩
    repeat (first | refine LOps.nil ?_ | refine andThen_normal ?_ | refine andThen_exit ?_ | refine andThen_ret ?_ | refine inBlock_normal ?_ | refine inBlock_ret ?_ | refine inBlock_here ?_ | refine inBlock_out rfl ?_ | refine LWp.seq ?_ | refine LWp.region ?_ | refine LWp.block ?_ | refine LWp.exit ?_ | refine LWp.ret ?_ | refine LWp.skip ?_ | refine LOps.valA ?_ | refine LOps.outA ?_ | refine LOps.whenA ?_ | refine LOps.pickA ?_ | refine LOps.storeA ?_)
    refine LWp.cond rfl (fun h => ?_) (fun h => ?_)
    · have hlt : j < 3 := by have := of_decide_eq_true h; omega
      obtain rfl | rfl | rfl : j = 0 ∨ j = 1 ∨ j = 2 := by omega
      · repeat (first | refine LOps.val (r := .one (bv B1)) (LVal.indexArr (m := 0) hD rfl rfl rfl rfl rfl rfl (by decide) rfl) rfl rfl rfl ?_ | refine LOps.nil ?_ | refine andThen_normal ?_ | refine andThen_exit ?_ | refine andThen_ret ?_ | refine inBlock_normal ?_ | refine inBlock_ret ?_ | refine inBlock_here ?_ | refine inBlock_out rfl ?_ | refine LWp.seq ?_ | refine LWp.region ?_ | refine LWp.block ?_ | refine LWp.exit ?_ | refine LWp.ret ?_ | refine LWp.skip ?_ | refine LOps.valA ?_ | refine LOps.outA ?_ | refine LOps.whenA ?_ | refine LOps.pickA ?_ | refine LOps.storeA ?_)
        refine LWp.cond rfl (fun h => ?_) (fun h => ?_)
        · have hb : B1 = false := by simpa using h
          repeat (first | refine LOps.nil ?_ | refine andThen_normal ?_ | refine andThen_exit ?_ | refine andThen_ret ?_ | refine inBlock_normal ?_ | refine inBlock_ret ?_ | refine inBlock_here ?_ | refine inBlock_out rfl ?_ | refine LWp.seq ?_ | refine LWp.region ?_ | refine LWp.block ?_ | refine LWp.exit ?_ | refine LWp.ret ?_ | refine LWp.skip ?_ | refine LOps.valA ?_ | refine LOps.outA ?_ | refine LOps.whenA ?_ | refine LOps.pickA ?_ | refine LOps.storeA ?_)
          exact ⟨rfl, _, holds.over ⟨rfl, rfl, by rw [hb]; rfl, rfl, rfl, trivial⟩⟩
        · have hb : B1 = true := by simpa using h
          repeat (first | refine LOps.nil ?_ | refine andThen_normal ?_ | refine andThen_exit ?_ | refine andThen_ret ?_ | refine inBlock_normal ?_ | refine inBlock_ret ?_ | refine inBlock_here ?_ | refine inBlock_out rfl ?_ | refine LWp.seq ?_ | refine LWp.region ?_ | refine LWp.block ?_ | refine LWp.exit ?_ | refine LWp.ret ?_ | refine LWp.skip ?_ | refine LOps.valA ?_ | refine LOps.outA ?_ | refine LOps.whenA ?_ | refine LOps.pickA ?_ | refine LOps.storeA ?_)
          exact ⟨2, by omega, rfl, _, 1, by omega, rfl, fun _ => hb, by omega, by omega, holds.over ⟨rfl, rfl, rfl, rfl, rfl, rfl, rfl, trivial⟩⟩
      · repeat (first | refine LOps.val (r := .one (bv B2)) (LVal.indexArr (m := 1) hD rfl rfl rfl rfl rfl rfl (by decide) rfl) rfl rfl rfl ?_ | refine LOps.nil ?_ | refine andThen_normal ?_ | refine andThen_exit ?_ | refine andThen_ret ?_ | refine inBlock_normal ?_ | refine inBlock_ret ?_ | refine inBlock_here ?_ | refine inBlock_out rfl ?_ | refine LWp.seq ?_ | refine LWp.region ?_ | refine LWp.block ?_ | refine LWp.exit ?_ | refine LWp.ret ?_ | refine LWp.skip ?_ | refine LOps.valA ?_ | refine LOps.outA ?_ | refine LOps.whenA ?_ | refine LOps.pickA ?_ | refine LOps.storeA ?_)
        refine LWp.cond rfl (fun h => ?_) (fun h => ?_)
        · have hb : B2 = false := by simpa using h
          repeat (first | refine LOps.nil ?_ | refine andThen_normal ?_ | refine andThen_exit ?_ | refine andThen_ret ?_ | refine inBlock_normal ?_ | refine inBlock_ret ?_ | refine inBlock_here ?_ | refine inBlock_out rfl ?_ | refine LWp.seq ?_ | refine LWp.region ?_ | refine LWp.block ?_ | refine LWp.exit ?_ | refine LWp.ret ?_ | refine LWp.skip ?_ | refine LOps.valA ?_ | refine LOps.outA ?_ | refine LOps.whenA ?_ | refine LOps.pickA ?_ | refine LOps.storeA ?_)
          exact ⟨rfl, _, holds.over ⟨rfl, rfl, by rw [hb, j1 (by omega)]; rfl, rfl, rfl, trivial⟩⟩
        · have hb : B2 = true := by simpa using h
          repeat (first | refine LOps.nil ?_ | refine andThen_normal ?_ | refine andThen_exit ?_ | refine andThen_ret ?_ | refine inBlock_normal ?_ | refine inBlock_ret ?_ | refine inBlock_here ?_ | refine inBlock_out rfl ?_ | refine LWp.seq ?_ | refine LWp.region ?_ | refine LWp.block ?_ | refine LWp.exit ?_ | refine LWp.ret ?_ | refine LWp.skip ?_ | refine LOps.valA ?_ | refine LOps.outA ?_ | refine LOps.whenA ?_ | refine LOps.pickA ?_ | refine LOps.storeA ?_)
          exact ⟨1, by omega, rfl, _, 2, by omega, rfl, fun _ => j1 (by omega), fun _ => hb, by omega, holds.over ⟨rfl, rfl, rfl, rfl, rfl, rfl, rfl, trivial⟩⟩
      · repeat (first | refine LOps.val (r := .one (bv B3)) (LVal.indexArr (m := 2) hD rfl rfl rfl rfl rfl rfl (by decide) rfl) rfl rfl rfl ?_ | refine LOps.nil ?_ | refine andThen_normal ?_ | refine andThen_exit ?_ | refine andThen_ret ?_ | refine inBlock_normal ?_ | refine inBlock_ret ?_ | refine inBlock_here ?_ | refine inBlock_out rfl ?_ | refine LWp.seq ?_ | refine LWp.region ?_ | refine LWp.block ?_ | refine LWp.exit ?_ | refine LWp.ret ?_ | refine LWp.skip ?_ | refine LOps.valA ?_ | refine LOps.outA ?_ | refine LOps.whenA ?_ | refine LOps.pickA ?_ | refine LOps.storeA ?_)
        refine LWp.cond rfl (fun h => ?_) (fun h => ?_)
        · have hb : B3 = false := by simpa using h
          repeat (first | refine LOps.nil ?_ | refine andThen_normal ?_ | refine andThen_exit ?_ | refine andThen_ret ?_ | refine inBlock_normal ?_ | refine inBlock_ret ?_ | refine inBlock_here ?_ | refine inBlock_out rfl ?_ | refine LWp.seq ?_ | refine LWp.region ?_ | refine LWp.block ?_ | refine LWp.exit ?_ | refine LWp.ret ?_ | refine LWp.skip ?_ | refine LOps.valA ?_ | refine LOps.outA ?_ | refine LOps.whenA ?_ | refine LOps.pickA ?_ | refine LOps.storeA ?_)
          exact ⟨rfl, _, holds.over ⟨rfl, rfl, by rw [hb, j1 (by omega), j2 (by omega)]; rfl, rfl, rfl, trivial⟩⟩
        · have hb : B3 = true := by simpa using h
          repeat (first | refine LOps.nil ?_ | refine andThen_normal ?_ | refine andThen_exit ?_ | refine andThen_ret ?_ | refine inBlock_normal ?_ | refine inBlock_ret ?_ | refine inBlock_here ?_ | refine inBlock_out rfl ?_ | refine LWp.seq ?_ | refine LWp.region ?_ | refine LWp.block ?_ | refine LWp.exit ?_ | refine LWp.ret ?_ | refine LWp.skip ?_ | refine LOps.valA ?_ | refine LOps.outA ?_ | refine LOps.whenA ?_ | refine LOps.pickA ?_ | refine LOps.storeA ?_)
          exact ⟨0, by omega, rfl, _, 3, by omega, rfl, fun _ => j1 (by omega), fun _ => j2 (by omega), fun _ => hb, holds.over ⟨rfl, rfl, rfl, rfl, rfl, rfl, rfl, trivial⟩⟩
    · have hge : j = 3 := by have := of_decide_eq_false h; omega
      subst hge
      repeat (first | refine LOps.nil ?_ | refine andThen_normal ?_ | refine andThen_exit ?_ | refine andThen_ret ?_ | refine inBlock_normal ?_ | refine inBlock_ret ?_ | refine inBlock_here ?_ | refine inBlock_out rfl ?_ | refine LWp.seq ?_ | refine LWp.region ?_ | refine LWp.block ?_ | refine LWp.exit ?_ | refine LWp.ret ?_ | refine LWp.skip ?_ | refine LOps.valA ?_ | refine LOps.outA ?_ | refine LOps.whenA ?_ | refine LOps.pickA ?_ | refine LOps.storeA ?_)
      exact ⟨rfl, _, holds.over ⟨rfl, rfl, by rw [j1 (by omega), j2 (by omega), j3 (by omega)]; rfl, rfl, rfl, trivial⟩⟩
  rintro T' S' ⟨rfl, T'', rfl⟩
  have n74 : b7 ≠ b4 := n47.symm
  have n75 : b7 ≠ b5 := n57.symm
  have n94 : b9 ≠ b4 := n49.symm
  have n95 : b9 ≠ b5 := n59.symm
  repeat (first | refine LOps.nil ?_ | refine andThen_normal ?_ | refine andThen_exit ?_ | refine andThen_ret ?_ | refine inBlock_normal ?_ | refine inBlock_ret ?_ | refine inBlock_here ?_ | refine inBlock_out rfl ?_ | refine LWp.seq ?_ | refine LWp.region ?_ | refine LWp.block ?_ | refine LWp.exit ?_ | refine LWp.ret ?_ | refine LWp.skip ?_ | refine LOps.valA ?_ | refine LOps.outA ?_ | refine LOps.whenA ?_ | refine LOps.pickA ?_ | refine LOps.storeA ?_)
  refine LWp.drawX (fun b => b = b4 ∨ b = b5) [0, 1, 2, 3, 4, 5, 6, 7, 8] (by rw [hP]; rfl) rfl ?_
  repeat (first | refine LRl.valC (fun _ => (LVal.call rfl rfl (by rw [hP]; exact Try.func32) rfl (by decide) (hown))) ?_ | refine LRl.whenC (fun _ => (LVal.call rfl rfl (by rw [hP]; exact Try.func32) rfl (by decide) (hown))) ?_ | refine LRl.nil ?_ | refine LRl.valA ?_ | refine LRl.outA ?_ | refine LRl.whenA ?_ | refine LRl.pickA ?_)
  refine LRl.act0 (LDo.store hD rfl rfl k4 rfl rfl rfl rfl) rfl rfl rfl (by rintro _ _ ⟨_, rfl⟩; exact .inl (.setBox (.inl rfl) _)) ?_
  rintro _ _ ⟨rfl, rfl⟩
  refine LRl.act0 (LDo.store hD rfl rfl ((box_set_ne _ _ n45.symm).trans k5) rfl rfl rfl rfl) rfl rfl rfl (by rintro _ _ ⟨_, rfl⟩; exact .inl (.setBox (.inr rfl) _)) ?_
  rintro _ _ ⟨rfl, rfl⟩
  repeat (first | refine LRl.nil ?_ | refine LRl.valA ?_ | refine LRl.outA ?_ | refine LRl.whenA ?_ | refine LRl.pickA ?_)
  repeat (first | refine LOps.nil ?_ | refine andThen_normal ?_ | refine andThen_exit ?_ | refine andThen_ret ?_ | refine inBlock_normal ?_ | refine inBlock_ret ?_ | refine inBlock_here ?_ | refine inBlock_out rfl ?_ | refine LWp.seq ?_ | refine LWp.region ?_ | refine LWp.block ?_ | refine LWp.exit ?_ | refine LWp.ret ?_ | refine LWp.skip ?_ | refine LOps.valA ?_ | refine LOps.outA ?_ | refine LOps.whenA ?_ | refine LOps.pickA ?_ | refine LOps.storeA ?_)
  refine ⟨_, LRes.sh (LRes.many rfl rfl (.cons (.cell rfl ((box_set_ne _ _ n45).trans (box_set _ _ _)) (hP ▸ tok29) rfl) (.cons (.cell rfl (box_set _ _ _) (hP ▸ tok32) rfl) (.cons (.tmp 6) .nil)))), ?_, (le3.setBox s4 _).setBox s5 _⟩
  unfold stateT
  rw [← hB1, ← hB2, ← hB3]; rfl
end Go.Proofs.Ytmdfjojohfhcgaa.LF
