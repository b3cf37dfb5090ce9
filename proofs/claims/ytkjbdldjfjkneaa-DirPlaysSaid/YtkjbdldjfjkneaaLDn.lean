/- The directory's laws: alike, and the ranges as lists. -/
import Derived.Test.YtkjbdldjfjkneaaLDi
import Derived.Test.YtkjbdldjfjkneaaLDw
set_option linter.unusedVariables false
set_option linter.unusedSimpArgs false
namespace Go.Proofs.Ytkjbdldjfjkneaa.LF
open Go.RowKit
set_option linter.unusedVariables false

theorem LS.leB.trans {S S' S'' : LS} (h : S.leB S') (k : S'.leB S'') : S.leB S'' := ⟨fun b c e => k.box b c (h.box b c e), fun b c e => k.row b c (h.row b c e), Nat.le_trans h.top k.top⟩
theorem LS.leB.setBox {S S' : LS} (h : S.leB S') {b : Nat} (hb : S.box b = Option.none) (cs : List LV) : S.leB (S'.setBox b cs) :=
  ⟨fun c x e => (box_set_ne S' cs (fun e2 => by subst e2; rw [hb] at e; cases e)).trans (h.box c x e), h.row, h.top⟩
theorem LS.leB.none {S S' : LS} (h : S.leB S') {b : Nat} (hb : S'.fresh b) : S.box b = Option.none := by
  cases hq : S.box b with
  | none => rfl
  | some x => have := h.box _ _ hq; rw [hb.box] at this; cases this
theorem Owned.leB {S S' : LS} {o : Own} {e : TypeId} {n : Nat} (h : Owned S e n o) (k : S.leB S') : Owned S' e n o := by
  cases o with
  | nil => exact h
  | sh => exact h
  | own b => exact k.row _ _ h
theorem Owned.setObj {S : LS} {o : Own} {e : TypeId} {n l : Nat} {x : Obj} (h : Owned S e n o) : Owned (S.setObj l x) e n o := by cases o <;> exact h
theorem Owned.apart {S : LS} {o o2 : Own} {e e2 : TypeId} {n m : Nat} (h : Owned S e n o) (k : Owned S e2 m o2) (he : e ≠ e2) : ∀ b, o = .own b → o2 ≠ .own b := fun b hb h2 => by
  subst hb; subst h2
  have h : S.row b = some (e, n) := h
  have k : S.row b = some (e2, m) := k
  rw [h] at k
  injection k with k
  injection k with k1 k2
  exact he k1

/-- A range's answer at each place. -/
theorem yields_at {d : Dv Int} {k : Nat} {x : List TV} (hd : d.los.length = d.xs.length) (h : (yieldsD (some d))[k]? = some x) : ∃ (h1 : k < d.los.length) (h2 : k < d.xs.length), x = [.one (sv d.los[k]), .one (iv d.xs[k])] := by
  have h1 := (List.getElem?_eq_some_iff.1 h).1
  simp only [yieldsD, List.length_map, List.length_range] at h1
  have h2 : k < d.xs.length := by omega
  refine ⟨h1, h2, ?_⟩
  simp only [yieldsD, List.getElem?_map, List.getElem?_range h1, Option.map_some, Option.some.injEq] at h
  rw [← h, List.getD_eq_getElem?_getD, List.getElem?_eq_getElem h1, Option.getD_some, List.getD_eq_getElem?_getD, List.getElem?_eq_getElem h2, Option.getD_some]

set_option maxHeartbeats 8000000 in
theorem ranges_L {G : Ctx} (hP : G.P = Try.prog) (d : Dv Int) (hd : d.wf) (S : LS) :
    LCalls G 34 [dTI (some d)] (fun r _ => r = .tup [.one (.sl .sh (d.los.map sL)), .one (.sl .sh (d.xs.map iL))]) S := by
  have hD : TabOK G.P D := by rw [hP]; exact hD0
  have hsm := hd.small
  refine LCalls.enter (fn := Try.f34) (by rw [hP]; exact Try.func34) rfl rfl ?_
  repeat (first | refine LOps.nil ?_ | refine andThen_normal ?_ | refine andThen_exit ?_ | refine andThen_ret ?_ | refine inBlock_normal ?_ | refine inBlock_ret ?_ | refine inBlock_here ?_ | refine inBlock_out rfl ?_ | refine LWp.seq ?_ | refine LWp.region ?_ | refine LWp.block ?_ | refine LWp.exit ?_ | refine LWp.ret ?_ | refine LWp.skip ?_ | refine LOps.valA ?_ | refine LOps.outA ?_ | refine LOps.whenA ?_ | refine LOps.pickA ?_ | refine LOps.storeA ?_)
  refine LOps.do (LDo.alloc hD rfl rfl rfl) rfl rfl rfl ?_
  rintro _ _ ⟨b4, hb4, rfl, rfl⟩
  repeat (first | refine LOps.nil ?_ | refine andThen_normal ?_ | refine andThen_exit ?_ | refine andThen_ret ?_ | refine inBlock_normal ?_ | refine inBlock_ret ?_ | refine inBlock_here ?_ | refine inBlock_out rfl ?_ | refine LWp.seq ?_ | refine LWp.region ?_ | refine LWp.block ?_ | refine LWp.exit ?_ | refine LWp.ret ?_ | refine LWp.skip ?_ | refine LOps.valA ?_ | refine LOps.outA ?_ | refine LOps.whenA ?_ | refine LOps.pickA ?_ | refine LOps.storeA ?_)
  refine LOps.do (LDo.alloc hD rfl rfl rfl) rfl rfl rfl ?_
  rintro _ _ ⟨b5, hb5, rfl, rfl⟩
  have n45 := fresh_ne hb5 (box_new S b4 (ti30.zero.cells.toList.map constLV))
  have n54 := n45.symm
  repeat (first | refine LOps.nil ?_ | refine andThen_normal ?_ | refine andThen_exit ?_ | refine andThen_ret ?_ | refine inBlock_normal ?_ | refine inBlock_ret ?_ | refine inBlock_here ?_ | refine inBlock_out rfl ?_ | refine LWp.seq ?_ | refine LWp.region ?_ | refine LWp.block ?_ | refine LWp.exit ?_ | refine LWp.ret ?_ | refine LWp.skip ?_ | refine LOps.valA ?_ | refine LOps.outA ?_ | refine LOps.whenA ?_ | refine LOps.pickA ?_ | refine LOps.storeA ?_)
  refine LOps.gen (fun S' => S'.box b4 = some [.sl .nil ([].map sL)] ∧ S'.box b5 = some [.sl .nil ([].map iL)]) ⟨(box_new_ne _ _ n45).trans (box_new _ _ _), box_new _ _ _⟩ ?_
  rintro S1 ⟨k4, k5⟩
  refine LOps.do (LDo.call rfl rfl (by rw [hP]; exact Try.func33) rfl (by decide) (allI_L hP (some d) _)) rfl rfl rfl ?_
  rintro _ _ ⟨bc, hbc, rfl, rfl⟩
  repeat (first | refine LOps.nil ?_ | refine andThen_normal ?_ | refine andThen_exit ?_ | refine andThen_ret ?_ | refine inBlock_normal ?_ | refine inBlock_ret ?_ | refine inBlock_here ?_ | refine inBlock_out rfl ?_ | refine LWp.seq ?_ | refine LWp.region ?_ | refine LWp.block ?_ | refine LWp.exit ?_ | refine LWp.ret ?_ | refine LWp.skip ?_ | refine LOps.valA ?_ | refine LOps.outA ?_ | refine LOps.whenA ?_ | refine LOps.pickA ?_ | refine LOps.storeA ?_)
  refine LWp.condF rfl ?_
  repeat (first | refine LOps.nil ?_ | refine andThen_normal ?_ | refine andThen_exit ?_ | refine andThen_ret ?_ | refine inBlock_normal ?_ | refine inBlock_ret ?_ | refine inBlock_here ?_ | refine inBlock_out rfl ?_ | refine LWp.seq ?_ | refine LWp.region ?_ | refine LWp.block ?_ | refine LWp.exit ?_ | refine LWp.ret ?_ | refine LWp.skip ?_ | refine LOps.valA ?_ | refine LOps.outA ?_ | refine LOps.whenA ?_ | refine LOps.pickA ?_ | refine LOps.storeA ?_)
  refine LOps.gen (fun S' => S'.box b4 = some [.sl .nil ([].map sL)] ∧ S'.box b5 = some [.sl .nil ([].map iL)]) ⟨(box_new_ne _ _ (fresh_ne hbc k4)).trans k4, (box_new_ne _ _ (fresh_ne hbc k5)).trans k5⟩ ?_
  clear k4 k5 hbc S1
  rintro S1 ⟨k4, k5⟩
  refine LOps.do (LDo.call rfl rfl (by rw [hP]; exact Try.func33) rfl (by decide) (allI_L hP (some d) _)) rfl rfl rfl ?_
  rintro _ _ ⟨bd, hbd, rfl, rfl⟩
  repeat (first | refine LOps.nil ?_ | refine andThen_normal ?_ | refine andThen_exit ?_ | refine andThen_ret ?_ | refine inBlock_normal ?_ | refine inBlock_ret ?_ | refine inBlock_here ?_ | refine inBlock_out rfl ?_ | refine LWp.seq ?_ | refine LWp.region ?_ | refine LWp.block ?_ | refine LWp.exit ?_ | refine LWp.ret ?_ | refine LWp.skip ?_ | refine LOps.valA ?_ | refine LOps.outA ?_ | refine LOps.whenA ?_ | refine LOps.pickA ?_ | refine LOps.storeA ?_)
  have n4 := fresh_ne hbd k4
  have n5 := fresh_ne hbd k5
  refine LWp.gen (fun S' => S'.box b4 = some [.sl .nil ([].map sL)] ∧ S'.box b5 = some [.sl .nil ([].map iL)] ∧ S'.box bd = some [dC (some d)]) ⟨(box_new_ne _ _ n4).trans k4, (box_new_ne _ _ n5).trans k5, box_new _ _ _⟩ ?_
  clear k4 k5 hbd hb4 hb5 S1 S
  rintro S1 ⟨k4, k5, kd⟩
  have hlen : (yieldsD (some d)).length = d.los.length := by simp [yieldsD]
  refine LWp.rangeFunc (xs := yieldsD (some d)) (C := fun S => S.box bd = some [dC (some d)]) rfl (by rw [hP]; exact Try.func49) rfl rfl rfl rfl (fun x hx => by
      obtain ⟨k, _, rfl⟩ := List.mem_map.1 hx; rfl) (fun G' h => allI_iter (h.trans hP) (some d) (some_wf hd) bd)
    (fun k S => ∃ o1 o2, S.box b4 = some [.sl o1 ((d.los.take k).map sL)] ∧ S.box b5 = some [.sl o2 ((d.xs.take k).map iL)] ∧ Owned S 9 k o1 ∧ Owned S 3 k o2 ∧ S.box bd = some [dC (some d)]) (fun c k S => False)
    (fun k S S' h hle => by
      obtain ⟨o1, o2, h1, h2, h3, h4, h5⟩ := h
      exact ⟨o1, o2, hle.box _ _ h1, hle.box _ _ h2, h3.leB hle, h4.leB hle, hle.box _ _ h5⟩) (fun c k S S' h hle => h.elim) (fun k S h => by
      obtain ⟨o1, o2, h1, h2, h3, h4, h5⟩ := h
      exact h5) ⟨.nil, .nil, k4, k5, rfl, rfl, kd⟩ ?_ ?_ ?_
  · clear k4 k5 kd S1
    rintro l k x S o hx ⟨o1, o2, k4, k5, own1, own2, kd⟩ ho
    obtain ⟨h1, h2, rfl⟩ := yields_at hd.len hx
    have m1 : ((d.los.take k).map sL).length = k := by rw [List.length_map, List.length_take]; omega
    have m2 : ((d.xs.take k).map iL).length = k := by rw [List.length_map, List.length_take]; omega
    repeat (first | refine LOps.nil ?_ | refine andThen_normal ?_ | refine andThen_exit ?_ | refine andThen_ret ?_ | refine inBlock_normal ?_ | refine inBlock_ret ?_ | refine inBlock_here ?_ | refine inBlock_out rfl ?_ | refine LWp.seq ?_ | refine LWp.region ?_ | refine LWp.block ?_ | refine LWp.exit ?_ | refine LWp.ret ?_ | refine LWp.skip ?_ | refine LOps.valA ?_ | refine LOps.outA ?_ | refine LOps.whenA ?_ | refine LOps.pickA ?_ | refine LOps.storeA ?_)
    refine ⟨rfl, ho, fun o' => ?_⟩
    refine LWp.gen (fun S => S.obj l = some o' ∧ S.box b4 = some [.sl o1 ((d.los.take k).map sL)] ∧ S.box b5 = some [.sl o2 ((d.xs.take k).map iL)] ∧ Owned S 9 k o1 ∧ Owned S 3 k o2 ∧ S.box bd = some [dC (some d)]) ⟨setObj_obj _ _ _, k4, k5, own1.setObj, own2.setObj, kd⟩ ?_
    clear k4 k5 own1 own2 kd ho S o
    rintro S ⟨ho, k4, k5, own1, own2, kd⟩
    repeat (first | refine LOps.nil ?_ | refine andThen_normal ?_ | refine andThen_exit ?_ | refine andThen_ret ?_ | refine inBlock_normal ?_ | refine inBlock_ret ?_ | refine inBlock_here ?_ | refine inBlock_out rfl ?_ | refine LWp.seq ?_ | refine LWp.region ?_ | refine LWp.block ?_ | refine LWp.exit ?_ | refine LWp.ret ?_ | refine LWp.skip ?_ | refine LOps.valA ?_ | refine LOps.outA ?_ | refine LOps.whenA ?_ | refine LOps.pickA ?_ | refine LOps.storeA ?_)
    refine LOps.do (LDo.push hD rfl rfl rfl rfl rfl rfl rfl rfl rfl rfl m1 own1 (by omega)) rfl rfl rfl ?_
    rintro _ S2 ⟨o3, rfl, own3, hup, hno⟩
    have own2' := own2.upto hup (own1.apart own2 (by decide))
    have k4 := hup.box _ _ k4
    have k5 := hup.box _ _ k5
    have kd := hup.box _ _ kd
    have ho := hup.obj _ _ ho
    have e1 : (d.los.take k).map sL ++ [sL d.los[k]] = (d.los.take (k + 1)).map sL := by rw [List.take_add_one, List.getElem?_eq_getElem h1, List.map_append]; rfl
    have e2 : (d.xs.take k).map iL ++ [iL d.xs[k]] = (d.xs.take (k + 1)).map iL := by rw [List.take_add_one, List.getElem?_eq_getElem h2, List.map_append]; rfl
    repeat (first | refine LOps.nil ?_ | refine andThen_normal ?_ | refine andThen_exit ?_ | refine andThen_ret ?_ | refine inBlock_normal ?_ | refine inBlock_ret ?_ | refine inBlock_here ?_ | refine inBlock_out rfl ?_ | refine LWp.seq ?_ | refine LWp.region ?_ | refine LWp.block ?_ | refine LWp.exit ?_ | refine LWp.ret ?_ | refine LWp.skip ?_ | refine LOps.valA ?_ | refine LOps.outA ?_ | refine LOps.whenA ?_ | refine LOps.pickA ?_ | refine LOps.storeA ?_)
    refine LOps.do (LDo.push hD rfl rfl rfl rfl rfl rfl rfl rfl rfl rfl m2 own2'.setBox (by omega)) rfl rfl rfl ?_
    rintro _ S3 ⟨o4, rfl, own4, hup2, hno2⟩
    have own3' := own3.setBox.upto hup2 (own2'.apart own3 (by decide))
    have k4 := hup2.box _ _ (box_set S2 b4 _)
    have k5 := hup2.box _ _ ((box_set_ne S2 _ n45.symm).trans k5)
    have kd := hup2.box _ _ ((box_set_ne S2 _ n4.symm).trans kd)
    have ho := hup2.obj _ _ (show (S2.setBox b4 _).obj l = _ from ho)
    repeat (first | refine LOps.nil ?_ | refine andThen_normal ?_ | refine andThen_exit ?_ | refine andThen_ret ?_ | refine inBlock_normal ?_ | refine inBlock_ret ?_ | refine inBlock_here ?_ | refine inBlock_out rfl ?_ | refine LWp.seq ?_ | refine LWp.region ?_ | refine LWp.block ?_ | refine LWp.exit ?_ | refine LWp.ret ?_ | refine LWp.skip ?_ | refine LOps.valA ?_ | refine LOps.outA ?_ | refine LOps.whenA ?_ | refine LOps.pickA ?_ | refine LOps.storeA ?_)
    refine ⟨ho, o3, o4, (box_set_ne S3 _ n45).trans (k4.trans ?_), (box_set S3 b5 _).trans ?_, own3'.setBox, own4.setBox, (box_set_ne S3 _ n5.symm).trans kd⟩
    · rw [← e1]; rfl
    · rw [← e2]; rfl
  · clear k4 k5 kd S1
    rintro S ⟨o1, o2, k4, k5, _, _, _⟩
    rw [hlen, List.take_length] at k4
    rw [hlen, hd.len, List.take_length] at k5
    repeat (first | refine LOps.nil ?_ | refine andThen_normal ?_ | refine andThen_exit ?_ | refine andThen_ret ?_ | refine inBlock_normal ?_ | refine inBlock_ret ?_ | refine inBlock_here ?_ | refine inBlock_out rfl ?_ | refine LWp.seq ?_ | refine LWp.region ?_ | refine LWp.block ?_ | refine LWp.exit ?_ | refine LWp.ret ?_ | refine LWp.skip ?_ | refine LOps.valA ?_ | refine LOps.outA ?_ | refine LOps.whenA ?_ | refine LOps.pickA ?_ | refine LOps.storeA ?_)
    refine LWp.drawL [0, 1, 2, 3] (by rw [hP]; rfl) rfl ?_
    repeat (first | refine LRl.nil ?_ | refine LRl.valA ?_ | refine LRl.outA ?_ | refine LRl.whenA ?_ | refine LRl.pickA ?_)
    repeat (first | refine LOps.nil ?_ | refine andThen_normal ?_ | refine andThen_exit ?_ | refine andThen_ret ?_ | refine inBlock_normal ?_ | refine inBlock_ret ?_ | refine inBlock_here ?_ | refine inBlock_out rfl ?_ | refine LWp.seq ?_ | refine LWp.region ?_ | refine LWp.block ?_ | refine LWp.exit ?_ | refine LWp.ret ?_ | refine LWp.skip ?_ | refine LOps.valA ?_ | refine LOps.outA ?_ | refine LOps.whenA ?_ | refine LOps.pickA ?_ | refine LOps.storeA ?_)
    exact ⟨_, LRes.sh (LRes.two rfl), rfl⟩
  · intro c k S _ h
    exact h.elim
end Go.Proofs.Ytkjbdldjfjkneaa.LF
