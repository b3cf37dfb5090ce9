/- Leaves: Find. -/
import Derived.Test.YtgkjhlmfgaaddaaLMi
set_option linter.unusedVariables false
set_option linter.unusedSimpArgs false
namespace Go.Proofs.Ytgkjhlmfgaaddaa.LF
open Go.RowKit
set_option linter.unusedVariables false

theorem findRes {G : Ctx} (hP : G.P = Try.prog) {n : Nat} {fn : Func} {T : Nat → TV} {S : LS} {a t : Tmp} {b c : Nat} {x : Int} {y : Bool} (hf : fn.results = #[.cell a 3, .cell t 4]) (ha : T a = ptr b) (hb : S.box b = some [iv x]) (hy : T t = ptr c) (hc : S.box c = some [bv y]) :
    LRes G n fn T S (.tup [.one (iv x), .one (bv y)]) :=
  LRes.many (vs := [.cell a 3, .cell t 4]) hf rfl (.cons (.cell ha hb (hP ▸ tok3) rfl) (.cons (.cell hy hc (hP ▸ tok4) rfl) .nil))

theorem yields_get {p k : Nat} {x : List TV} (hr : rt (slots p) = true) (h : (yields p)[k]? = some x) : k < p % 16 ∧ x = [.one (iv (k : Nat)), .one (iv (nib p k : Nat))] := by
  have h1 := (List.getElem?_eq_some_iff.1 h).1
  have hu : usedN p = p % 16 := by unfold usedN; rw [hr]; rfl
  simp only [yields, List.length_map, List.length_range, hu] at h1
  refine ⟨h1, ?_⟩
  simp only [yields, hu, List.getElem?_map, List.getElem?_range h1, Option.map_some, Option.some.injEq] at h
  exact h.symm

set_option maxHeartbeats 8000000 in
theorem find_L {G : Ctx} (hP : G.P = Try.prog) (l : LeafV) (hl : l.ok) (m : MarkV) : LFun G 24 [.agg (leafL l), .agg (markL m)] (.tup [.one (iv ((findL l m).1 : Nat)), .one (bv (findL l m).2)]) := LFun.of fun S => by
  have hD : TabOK G.P D := by rw [hP]; exact hD0
  have ea : EqTy G.P D 24 := by rw [hP]; exact eqMark
  have h1 := len_L hP l hl.p
  have h2 := right_L hP l hl
  refine LCalls.enter (fn := Try.f24) (by rw [hP]; exact Try.func24) rfl rfl ?_
  repeat (first | refine LOps.nil ?_ | refine andThen_normal ?_ | refine andThen_exit ?_ | refine andThen_ret ?_ | refine inBlock_normal ?_ | refine inBlock_ret ?_ | refine inBlock_here ?_ | refine inBlock_out rfl ?_ | refine LWp.seq ?_ | refine LWp.region ?_ | refine LWp.block ?_ | refine LWp.exit ?_ | refine LWp.ret ?_ | refine LWp.skip ?_ | refine LOps.valA ?_ | refine LOps.outA ?_ | refine LOps.whenA ?_ | refine LOps.pickA ?_ | refine LOps.storeA ?_)
  have hle := LS.le.refl S
  refine LOps.do (LDo.box rfl rfl) rfl rfl rfl ?_
  rintro _ _ ⟨b2, hb2, rfl, rfl⟩
  have s2 := hle.none hb2
  refine LOps.gen (fun S' => S.le S' ∧ S'.box b2 = some (leafL l)) ⟨hle.newBox hb2 _, box_new _ _ _⟩ ?_
  clear hle hb2 
  rintro S2 ⟨hle, k2⟩
  repeat (first | refine LOps.nil ?_ | refine andThen_normal ?_ | refine andThen_exit ?_ | refine andThen_ret ?_ | refine inBlock_normal ?_ | refine inBlock_ret ?_ | refine inBlock_here ?_ | refine inBlock_out rfl ?_ | refine LWp.seq ?_ | refine LWp.region ?_ | refine LWp.block ?_ | refine LWp.exit ?_ | refine LWp.ret ?_ | refine LWp.skip ?_ | refine LOps.valA ?_ | refine LOps.outA ?_ | refine LOps.whenA ?_ | refine LOps.pickA ?_ | refine LOps.storeA ?_)
  skip
  refine LOps.do (LDo.box rfl rfl) rfl rfl rfl ?_
  rintro _ _ ⟨b3, hb3, rfl, rfl⟩
  have n2_3 := fresh_ne hb3 k2
  have m3_2 := n2_3.symm
  have s3 := hle.none hb3
  refine LOps.gen (fun S' => S.le S' ∧ S'.box b2 = some (leafL l) ∧ S'.box b3 = some (markL m)) ⟨hle.newBox hb3 _, (box_new_ne _ _ n2_3).trans k2, box_new _ _ _⟩ ?_
  clear hle hb3 k2
  rintro S3 ⟨hle, k2, k3⟩
  repeat (first | refine LOps.nil ?_ | refine andThen_normal ?_ | refine andThen_exit ?_ | refine andThen_ret ?_ | refine inBlock_normal ?_ | refine inBlock_ret ?_ | refine inBlock_here ?_ | refine inBlock_out rfl ?_ | refine LWp.seq ?_ | refine LWp.region ?_ | refine LWp.block ?_ | refine LWp.exit ?_ | refine LWp.ret ?_ | refine LWp.skip ?_ | refine LOps.valA ?_ | refine LOps.outA ?_ | refine LOps.whenA ?_ | refine LOps.pickA ?_ | refine LOps.storeA ?_)
  skip
  refine LOps.do (LDo.alloc hD rfl rfl rfl) rfl rfl rfl ?_
  rintro _ _ ⟨b4, hb4, rfl, rfl⟩
  have n2_4 := fresh_ne hb4 k2
  have m4_2 := n2_4.symm
  have n3_4 := fresh_ne hb4 k3
  have m4_3 := n3_4.symm
  have s4 := hle.none hb4
  refine LOps.gen (fun S' => S.le S' ∧ S'.box b2 = some (leafL l) ∧ S'.box b3 = some (markL m) ∧ S'.box b4 = some ([iv 0])) ⟨hle.newBox hb4 _, (box_new_ne _ _ n2_4).trans k2, (box_new_ne _ _ n3_4).trans k3, box_new _ _ _⟩ ?_
  clear hle hb4 k2 k3
  rintro S4 ⟨hle, k2, k3, k4⟩
  repeat (first | refine LOps.nil ?_ | refine andThen_normal ?_ | refine andThen_exit ?_ | refine andThen_ret ?_ | refine inBlock_normal ?_ | refine inBlock_ret ?_ | refine inBlock_here ?_ | refine inBlock_out rfl ?_ | refine LWp.seq ?_ | refine LWp.region ?_ | refine LWp.block ?_ | refine LWp.exit ?_ | refine LWp.ret ?_ | refine LWp.skip ?_ | refine LOps.valA ?_ | refine LOps.outA ?_ | refine LOps.whenA ?_ | refine LOps.pickA ?_ | refine LOps.storeA ?_)
  skip
  refine LOps.do (LDo.alloc hD rfl rfl rfl) rfl rfl rfl ?_
  rintro _ _ ⟨b5, hb5, rfl, rfl⟩
  have n2_5 := fresh_ne hb5 k2
  have m5_2 := n2_5.symm
  have n3_5 := fresh_ne hb5 k3
  have m5_3 := n3_5.symm
  have n4_5 := fresh_ne hb5 k4
  have m5_4 := n4_5.symm
  have s5 := hle.none hb5
  refine LOps.gen (fun S' => S.le S' ∧ S'.box b2 = some (leafL l) ∧ S'.box b3 = some (markL m) ∧ S'.box b4 = some ([iv 0]) ∧ S'.box b5 = some ([bv false])) ⟨hle.newBox hb5 _, (box_new_ne _ _ n2_5).trans k2, (box_new_ne _ _ n3_5).trans k3, (box_new_ne _ _ n4_5).trans k4, box_new _ _ _⟩ ?_
  clear hle hb5 k2 k3 k4
  rintro S5 ⟨hle, k2, k3, k4, k5⟩
  cases hr : rightL l with
  | false =>
    rw [hr] at h2
    have e : findL l m = (0, false) := by unfold findL; rw [hr]; rfl
    rw [e]
    repeat (first | refine LOps.valH (LVal.call rfl rfl (by rw [hP]; exact Try.func12) rfl (by decide) (h2)) ?_ | refine LOps.valH (LVal.load hD rfl rfl k2 rfl (rdLeaf l)) ?_ | refine LWp.condT rfl ?_ | refine LOps.valH (LVal.to (LVal.binOp hD rfl rfl rfl rfl) (r' := .one (.v (.bool true))) (congrArg (fun b => TV.one (.v (.bool b))) (by first | exact decide_eq_true (by omega) | (rw [beq_iff_eq]; omega) | (rw [bne_iff_ne]; omega)))) ?_ | refine LOps.valH (LVal.to (LVal.binOp hD rfl rfl rfl rfl) (r' := .one (.v (.bool false))) (congrArg (fun b => TV.one (.v (.bool b))) (by first | exact decide_eq_false (by omega) | (rw [beq_eq_false_iff_ne]; omega) | (rw [bne_eq_false_iff_eq]; omega)))) ?_ | refine LOps.valW ?_ | refine LOps.nil ?_ | refine andThen_normal ?_ | refine andThen_exit ?_ | refine andThen_ret ?_ | refine inBlock_normal ?_ | refine inBlock_ret ?_ | refine inBlock_here ?_ | refine inBlock_out rfl ?_ | refine LWp.seq ?_ | refine LWp.region ?_ | refine LWp.block ?_ | refine LWp.exit ?_ | refine LWp.ret ?_ | refine LWp.skip ?_ | refine LOps.val (LVal.call rfl rfl (by rw [hP]; exact Try.func12) rfl (by decide) (h2)) rfl rfl rfl ?_ | refine LOps.whenC (LVal.call rfl rfl (by rw [hP]; exact Try.func12) rfl (by decide) (h2)) ?_ | refine LOps.valA ?_ | refine LOps.outA ?_ | refine LOps.whenA ?_ | refine LOps.pickA ?_ | refine LOps.storeA ?_)
    exact ⟨_, findRes hP rfl rfl ((box_set_ne _ _ n4_5).trans (box_set _ _ _)) rfl (box_set _ _ _), rfl, (hle.setBox s4 _).setBox s5 _⟩
  | true =>
  rw [hr] at h2
  have hrt := rightL_rt hr
  have hle15 := rt_le hrt
  have e : ∀ k, lessN l m = k → findL l m = (k, decide (k < l.p % 16) && eqM (l.rank k).m m) := fun k hk => by unfold findL; rw [hr, if_pos rfl, hk]
  repeat (first | refine LOps.valH (LVal.call rfl rfl (by rw [hP]; exact Try.func12) rfl (by decide) (h2)) ?_ | refine LOps.valH (LVal.load hD rfl rfl k2 rfl (rdLeaf l)) ?_ | refine LOps.valH (LVal.load hD rfl rfl k2 rfl (rdPerm l)) ?_ | refine LWp.condF rfl ?_ | refine LOps.valH (LVal.to (LVal.binOp hD rfl rfl rfl rfl) (r' := .one (.v (.bool true))) (congrArg (fun b => TV.one (.v (.bool b))) (by first | exact decide_eq_true (by omega) | (rw [beq_iff_eq]; omega) | (rw [bne_iff_ne]; omega)))) ?_ | refine LOps.valH (LVal.to (LVal.binOp hD rfl rfl rfl rfl) (r' := .one (.v (.bool false))) (congrArg (fun b => TV.one (.v (.bool b))) (by first | exact decide_eq_false (by omega) | (rw [beq_eq_false_iff_ne]; omega) | (rw [bne_eq_false_iff_eq]; omega)))) ?_ | refine LOps.valW ?_ | refine LOps.nil ?_ | refine andThen_normal ?_ | refine andThen_exit ?_ | refine andThen_ret ?_ | refine inBlock_normal ?_ | refine inBlock_ret ?_ | refine inBlock_here ?_ | refine inBlock_out rfl ?_ | refine LWp.seq ?_ | refine LWp.region ?_ | refine LWp.block ?_ | refine LWp.exit ?_ | refine LWp.ret ?_ | refine LWp.skip ?_ | refine LOps.val (LVal.call rfl rfl (by rw [hP]; exact Try.func12) rfl (by decide) (h2)) rfl rfl rfl ?_ | refine LOps.whenC (LVal.call rfl rfl (by rw [hP]; exact Try.func12) rfl (by decide) (h2)) ?_ | refine LOps.valA ?_ | refine LOps.outA ?_ | refine LOps.whenA ?_ | refine LOps.pickA ?_ | refine LOps.storeA ?_)
  refine LOps.do (LDo.call rfl rfl (by rw [hP]; exact Try.func51) rfl (by decide) (all_L hP l.p _)) rfl rfl rfl ?_
  rintro _ _ ⟨bd, hbd, rfl, rfl⟩
  repeat (first | refine LOps.nil ?_ | refine andThen_normal ?_ | refine andThen_exit ?_ | refine andThen_ret ?_ | refine inBlock_normal ?_ | refine inBlock_ret ?_ | refine inBlock_here ?_ | refine inBlock_out rfl ?_ | refine LWp.seq ?_ | refine LWp.region ?_ | refine LWp.block ?_ | refine LWp.exit ?_ | refine LWp.ret ?_ | refine LWp.skip ?_ | refine LOps.valA ?_ | refine LOps.outA ?_ | refine LOps.whenA ?_ | refine LOps.pickA ?_ | refine LOps.storeA ?_)
  have n2d := fresh_ne hbd k2
  have n3d := fresh_ne hbd k3
  have n4d := fresh_ne hbd k4
  have n5d := fresh_ne hbd k5
  refine LWp.gen (fun S' => S.le S' ∧ S'.box b2 = some (leafL l) ∧ S'.box b3 = some (markL m) ∧ S'.box b4 = some [iv 0] ∧ S'.box b5 = some [bv false] ∧ S'.box bd = some [.v (.int .u64 l.p)]) ⟨hle.newBox hbd _, (box_new_ne _ _ n2d).trans k2, (box_new_ne _ _ n3d).trans k3, (box_new_ne _ _ n4d).trans k4, (box_new_ne _ _ n5d).trans k5, box_new _ _ _⟩ ?_
  clear hle k2 k3 k4 k5 hbd
  rintro S1 ⟨hle, k2, k3, k4, k5, kd⟩
  refine LWp.rangeFuncK (xs := yields l.p) (C := fun S => S.box bd = some [.v (.int .u64 l.p)]) rfl (by rw [hP]; exact Try.func63) rfl rfl rfl rfl (fun x hx => by
      obtain ⟨k, _, rfl⟩ := List.mem_map.1 hx; rfl) (fun G' h => all_iter (h.trans hP) l.p bd hl.p)
    (fun k S' => S.le S' ∧ S'.box b2 = some (leafL l) ∧ S'.box b3 = some (markL m) ∧ S'.box b4 = some [iv 0] ∧ S'.box b5 = some [bv false] ∧ S'.box bd = some [.v (.int .u64 l.p)] ∧ ∀ j, j < k → lessM (l.rank j).m m = true)
    (fun c k S' => c = .ret ∧ S.le S' ∧ S'.box b4 = some [iv ((findL l m).1 : Nat)] ∧ S'.box b5 = some [bv (findL l m).2])
    (fun q hq k S2 S3 h hk => ⟨h.1.leO (hle.objNone hq) hk, hk.box _ _ h.2.1, hk.box _ _ h.2.2.1, hk.box _ _ h.2.2.2.1, hk.box _ _ h.2.2.2.2.1, hk.box _ _ h.2.2.2.2.2.1, h.2.2.2.2.2.2⟩)
    (fun q hq c k S2 S3 h hk => ⟨h.1, h.2.1.leO (hle.objNone hq) hk, hk.box _ _ h.2.2.1, hk.box _ _ h.2.2.2⟩) (fun k S h => h.2.2.2.2.2.1) ⟨hle, k2, k3, k4, k5, kd, fun j hj => by omega⟩ ?_ ?_ ?_
  · have hle0 := hle
    clear hle k2 k3 k4 k5 kd
    rintro q k x S2 o hq hx ⟨hle, k2, k3, k4, k5, kd, hall⟩ ho
    obtain ⟨hk, rfl⟩ := yields_get hrt hx
    have hn := nib_low hrt (show k < 15 by omega)
    have c1 := less_M hP (l.rank k).m m
    repeat (first | refine LOps.nil ?_ | refine andThen_normal ?_ | refine andThen_exit ?_ | refine andThen_ret ?_ | refine inBlock_normal ?_ | refine inBlock_ret ?_ | refine inBlock_here ?_ | refine inBlock_out rfl ?_ | refine LWp.seq ?_ | refine LWp.region ?_ | refine LWp.block ?_ | refine LWp.exit ?_ | refine LWp.ret ?_ | refine LWp.skip ?_ | refine LOps.valA ?_ | refine LOps.outA ?_ | refine LOps.whenA ?_ | refine LOps.pickA ?_ | refine LOps.storeA ?_)
    refine ⟨rfl, ho, fun o' => ?_⟩
    refine LWp.gen (fun S' => S'.obj q = some o' ∧ S.le S' ∧ S'.box b2 = some (leafL l) ∧ S'.box b3 = some (markL m) ∧ S'.box b4 = some [iv 0] ∧ S'.box b5 = some [bv false] ∧ S'.box bd = some [.v (.int .u64 l.p)]) ?_ ?_
    · exact ⟨setObj_obj _ _ _, hle.leO (hle0.objNone hq) (.setObj _ _ _), k2, k3, k4, k5, kd⟩
    clear hle k2 k3 k4 k5 kd ho
    rintro S3 ⟨ho, hle, k2, k3, k4, k5, kd⟩
    repeat (first | refine LOps.nil ?_ | refine andThen_normal ?_ | refine andThen_exit ?_ | refine andThen_ret ?_ | refine inBlock_normal ?_ | refine inBlock_ret ?_ | refine inBlock_here ?_ | refine inBlock_out rfl ?_ | refine LWp.seq ?_ | refine LWp.region ?_ | refine LWp.block ?_ | refine LWp.exit ?_ | refine LWp.ret ?_ | refine LWp.skip ?_ | refine LOps.valA ?_ | refine LOps.outA ?_ | refine LOps.whenA ?_ | refine LOps.pickA ?_ | refine LOps.storeA ?_)
    refine LWp.drawL [0, 1, 2, 3, 4, 5, 6, 7] (by rw [hP]; rfl) rfl ?_
    repeat (first | refine LRl.valH (LVal.indexP hD rfl rfl rfl rfl rfl rfl hn) ?_ (fun _ hS => LVal.indexP hD rfl rfl rfl rfl rfl rfl hn) | refine LRl.valH (LVal.load hD rfl rfl k2 rfl (rdMark l hn)) ?_ (fun _ hS => LVal.load hD rfl rfl (hS.box _ _ k2 (by first | exact id | (intro hx; rcases hx with hx | hx <;> omega) | (intro hx; have hx2 : _ = _ := hx; omega))) rfl (rdMark l hn)) | refine LRl.valC (fun _ => (LVal.call rfl rfl (by rw [hP]; exact Try.func18) rfl (by decide) (c1))) ?_ | refine LRl.whenC (fun _ => (LVal.call rfl rfl (by rw [hP]; exact Try.func18) rfl (by decide) (c1))) ?_ | refine LRl.nil ?_ | refine LRl.valA ?_ | refine LRl.outA ?_ | refine LRl.whenA ?_ | refine LRl.pickA ?_)
    refine LWp.cond rfl (fun h => ?_) (fun h => ?_)
    · have h : lessM (l.rank k).m m = false := by simpa using h
      have hc : lessN l m = k := lessN_of l m (by omega) hall (fun _ => h)
      have e := e k hc
      rw [decide_eq_true hk, Bool.true_and] at e
      repeat (first | refine LOps.nil ?_ | refine andThen_normal ?_ | refine andThen_exit ?_ | refine andThen_ret ?_ | refine inBlock_normal ?_ | refine inBlock_ret ?_ | refine inBlock_here ?_ | refine inBlock_out rfl ?_ | refine LWp.seq ?_ | refine LWp.region ?_ | refine LWp.block ?_ | refine LWp.exit ?_ | refine LWp.ret ?_ | refine LWp.skip ?_ | refine LOps.valA ?_ | refine LOps.outA ?_ | refine LOps.whenA ?_ | refine LOps.pickA ?_ | refine LOps.storeA ?_)
      refine LWp.drawX (fun b => b = b4 ∨ b = b5) [0, 1, 2, 3, 4, 5, 6, 7, 8, 9] (by rw [hP]; rfl) rfl ?_
      repeat (first | refine LRl.valH (LVal.indexP hD rfl rfl rfl rfl rfl rfl hn) ?_ (fun _ hS => LVal.indexP hD rfl rfl rfl rfl rfl rfl hn) | refine LRl.valH (LVal.load hD rfl rfl k2 rfl (rdMark l hn)) ?_ (fun _ hS => LVal.load hD rfl rfl (hS.box _ _ k2 (by first | exact id | (intro hx; rcases hx with hx | hx <;> omega) | (intro hx; have hx2 : _ = _ := hx; omega))) rfl (rdMark l hn)) | refine LRl.nil ?_ | refine LRl.valA ?_ | refine LRl.outA ?_ | refine LRl.whenA ?_ | refine LRl.pickA ?_)
      refine LRl.act0 (LDo.store hD rfl rfl k4 rfl rfl rfl rfl) rfl rfl rfl (by rintro _ _ ⟨rfl, rfl⟩; exact .inl (LS.leX.setBox (X := fun b => b = b4 ∨ b = b5) (.inl rfl) _)) ?_
      rintro _ _ ⟨rfl, rfl⟩
      repeat (first | refine LRl.nil ?_ | refine LRl.valA ?_ | refine LRl.outA ?_ | refine LRl.whenA ?_ | refine LRl.pickA ?_)
      refine LRl.act0 (LDo.store hD rfl rfl ((box_set_ne _ _ m5_4).trans k5) rfl rfl rfl rfl) rfl rfl rfl (by rintro _ _ ⟨rfl, rfl⟩; exact .inl (LS.leX.setBox (X := fun b => b = b4 ∨ b = b5) (.inr rfl) _)) ?_
      rintro _ _ ⟨rfl, rfl⟩
      repeat (first | refine LRl.nil ?_ | refine LRl.valA ?_ | refine LRl.outA ?_ | refine LRl.whenA ?_ | refine LRl.pickA ?_)
      repeat (first | refine LOps.nil ?_ | refine andThen_normal ?_ | refine andThen_exit ?_ | refine andThen_ret ?_ | refine inBlock_normal ?_ | refine inBlock_ret ?_ | refine inBlock_here ?_ | refine inBlock_out rfl ?_ | refine LWp.seq ?_ | refine LWp.region ?_ | refine LWp.block ?_ | refine LWp.exit ?_ | refine LWp.ret ?_ | refine LWp.skip ?_ | refine LOps.valA ?_ | refine LOps.outA ?_ | refine LOps.whenA ?_ | refine LOps.pickA ?_ | refine LOps.storeA ?_)
      refine ⟨ho, rfl, (hle.setBox s4 _).setBox s5 _, (box_set_ne _ _ n4_5).trans ((box_set _ _ _).trans ?_), (box_set _ _ _).trans ?_⟩
      · rw [e]; rfl
      · rw [e]
        show some [bv (((l.rank k).m.s == m.s) && (((l.rank k).m.c == m.c) && true))] = _
        rw [Bool.and_true]; rfl
    · have h : lessM (l.rank k).m m = true := by simpa using h
      repeat (first | refine LOps.nil ?_ | refine andThen_normal ?_ | refine andThen_exit ?_ | refine andThen_ret ?_ | refine inBlock_normal ?_ | refine inBlock_ret ?_ | refine inBlock_here ?_ | refine inBlock_out rfl ?_ | refine LWp.seq ?_ | refine LWp.region ?_ | refine LWp.block ?_ | refine LWp.exit ?_ | refine LWp.ret ?_ | refine LWp.skip ?_ | refine LOps.valA ?_ | refine LOps.outA ?_ | refine LOps.whenA ?_ | refine LOps.pickA ?_ | refine LOps.storeA ?_)
      exact ⟨ho, hle, k2, k3, k4, k5, kd, fun j hj => (by
        rcases Nat.lt_or_ge j k with h2 | h2
        · exact hall j h2
        · obtain rfl : j = k := by omega
          exact h)⟩
  · clear hle k2 k3 k4 k5 kd
    rintro S2 ⟨hle, k2, k3, k4, k5, kd, hall⟩
    have hu : (yields l.p).length = l.p % 16 := by
      have hu : usedN l.p = l.p % 16 := by unfold usedN; rw [hrt]; rfl
      simp [yields, hu]
    rw [hu] at hall
    have e := e _ (lessN_of l m (Nat.le_refl _) hall (fun h => absurd h (by omega)))
    rw [decide_eq_false (by omega), Bool.false_and] at e
    rw [e]
    repeat (first | refine LOps.valH (LVal.load hD rfl rfl k2 rfl (rdLeaf l)) ?_ | refine LOps.nil ?_ | refine andThen_normal ?_ | refine andThen_exit ?_ | refine andThen_ret ?_ | refine inBlock_normal ?_ | refine inBlock_ret ?_ | refine inBlock_here ?_ | refine inBlock_out rfl ?_ | refine LWp.seq ?_ | refine LWp.region ?_ | refine LWp.block ?_ | refine LWp.exit ?_ | refine LWp.ret ?_ | refine LWp.skip ?_ | refine LOps.val (LVal.call rfl rfl (by rw [hP]; exact Try.func15) rfl (by decide) (h1)) rfl rfl rfl ?_ | refine LOps.whenC (LVal.call rfl rfl (by rw [hP]; exact Try.func15) rfl (by decide) (h1)) ?_ | refine LOps.valA ?_ | refine LOps.outA ?_ | refine LOps.whenA ?_ | refine LOps.pickA ?_ | refine LOps.storeA ?_)
    exact ⟨_, findRes hP rfl rfl ((box_set_ne _ _ n4_5).trans (box_set _ _ _)) rfl (box_set _ _ _), rfl, (hle.setBox s4 _).setBox s5 _⟩
  · rintro c k S2 _ ⟨rfl, hle, k4, k5⟩
    repeat (first | refine LOps.nil ?_ | refine andThen_normal ?_ | refine andThen_exit ?_ | refine andThen_ret ?_ | refine inBlock_normal ?_ | refine inBlock_ret ?_ | refine inBlock_here ?_ | refine inBlock_out rfl ?_ | refine LWp.seq ?_ | refine LWp.region ?_ | refine LWp.block ?_ | refine LWp.exit ?_ | refine LWp.ret ?_ | refine LWp.skip ?_ | refine LOps.valA ?_ | refine LOps.outA ?_ | refine LOps.whenA ?_ | refine LOps.pickA ?_ | refine LOps.storeA ?_)
    exact ⟨_, findRes hP rfl rfl k4 rfl k5, rfl, hle⟩
end Go.Proofs.Ytgkjhlmfgaaddaa.LF
