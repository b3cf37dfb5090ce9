/- Leaves: the document's Find; the walk of MleafReads. (Printed by gen_reads.py.) -/
import Derived.Test.YtgkjhlmfgaaddaaLMq
import Derived.Test.YtgkjhlmfgaaddaaLMs
set_option linter.unusedVariables false
set_option linter.unusedSimpArgs false
namespace Go.Proofs.Ytgkjhlmfgaaddaa.LF
open Go.RowKit
set_option linter.unusedVariables false

theorem eqM_cells (a b : MarkV) : ((a.s == b.s) && ((a.c == b.c) && true)) = eqM a b := by rw [Bool.and_true]; rfl
theorem useOf_get (l : LeafV) {n j : Nat} (h : j < n) : (useOf l n)[j]? = some (l.rank j) := by simp [useOf, h]
theorem found_less {l : LeafV} {m : MarkV} {i : Nat} {is : Bool} (h : Found l m i is) {j : Nat} (hj : j < l.p % 16) : lessM (l.rank j).m m = decide (j < i) := by
  by_cases h1 : j < i
  · rw [h.lo j h1, decide_eq_true h1]
  · rw [decide_eq_false h1]
    cases is with
    | false => exact lessM_asym (h.hi rfl j (by omega) hj)
    | true =>
      rcases Nat.lt_or_ge i j with h2 | h2
      · exact lessM_asym (h.hi2 j h2 hj)
      · obtain rfl : i = j := by omega
        rw [(h.at_ rfl).2, lessM_irr]
theorem found_eq {l : LeafV} {m : MarkV} {i : Nat} {is : Bool} (h : Found l m i is) {j : Nat} (hj : j < l.p % 16) : eqM (l.rank j).m m = (is && decide (j = i)) := by
  have hne : (l.rank j).m ≠ m → eqM (l.rank j).m m = false := fun hn => by
    cases e : eqM (l.rank j).m m with
    | false => rfl
    | true => exact absurd ((eqM_iff _ _).1 e) hn
  rcases Nat.lt_trichotomy j i with h1 | h1 | h1
  · rw [decide_eq_false (by omega), Bool.and_false]
    exact hne fun e => by have := h.lo j h1; rw [e, lessM_irr] at this; cases this
  · subst h1
    rw [decide_eq_true rfl, Bool.and_true]
    cases is with
    | true => exact (eqM_iff _ _).2 (h.at_ rfl).2
    | false => exact hne fun e => by have := h.hi rfl j (by omega) hj; rw [e, lessM_irr] at this; cases this
  · rw [decide_eq_false (by omega), Bool.and_false]
    exact hne fun e => by have := h.hi2 j h1 hj; rw [e, lessM_irr] at this; cases this

set_option maxHeartbeats 8000000 in
theorem refFind_L {G : Ctx} (hP : G.P = Try.prog) (l : LeafV) (hl : l.ok) (m : MarkV) (hm : m.ok) : LFun G 25 [.agg (leafL l), .agg (markL m)] (.tup [.one (iv ((findL l m).1 : Nat)), .one (bv (findL l m).2)]) := LFun.of fun S => by
  have hD : TabOK G.P D := by rw [hP]; exact hD0
  have ea : EqTy G.P D 40 := by rw [hP]; exact eqRMark
  have c1 := refRight_L hP l hl
  have c2 := refUse_F hP l hl
  refine LCalls.enter (fn := Try.f25) (by rw [hP]; exact Try.func25) rfl rfl ?_
  repeat (first | refine LOps.nil ?_ | refine andThen_normal ?_ | refine andThen_exit ?_ | refine andThen_ret ?_ | refine inBlock_normal ?_ | refine inBlock_ret ?_ | refine inBlock_here ?_ | refine inBlock_out rfl ?_ | refine LWp.seq ?_ | refine LWp.region ?_ | refine LWp.block ?_ | refine LWp.exit ?_ | refine LWp.ret ?_ | refine LWp.skip ?_ | refine LOps.valA ?_ | refine LOps.outA ?_ | refine LOps.whenA ?_ | refine LOps.pickA ?_ | refine LOps.storeA ?_)
  have hle := LS.le.refl S
  refine LOps.do (LDo.box rfl rfl) rfl rfl rfl ?_
  rintro _ _ ⟨b2, hb2, rfl, rfl⟩
  have s2 := hle.none hb2
  refine LOps.gen (fun S' => S.le S' ∧ S'.box b2 = some (leafL l)) ⟨hle.newBox hb2 _, box_new _ _ _⟩ ?_
  clear hle hb2 
  rintro S2 ⟨hle, k2⟩
  repeat (first | refine LOps.nil ?_ | refine andThen_normal ?_ | refine andThen_exit ?_ | refine andThen_ret ?_ | refine inBlock_normal ?_ | refine inBlock_ret ?_ | refine inBlock_here ?_ | refine inBlock_out rfl ?_ | refine LWp.seq ?_ | refine LWp.region ?_ | refine LWp.block ?_ | refine LWp.exit ?_ | refine LWp.ret ?_ | refine LWp.skip ?_ | refine LOps.valA ?_ | refine LOps.outA ?_ | refine LOps.whenA ?_ | refine LOps.pickA ?_ | refine LOps.storeA ?_)
  skip
  refine LOps.do (LDo.box rfl rfl) rfl rfl rfl ?_
  rintro _ _ ⟨b3, hb3, rfl, rfl⟩
  have n2_3 := fresh_ne hb3 k2
  have m3_2 := n2_3.symm
  have s3 := hle.none hb3
  refine LOps.gen (fun S' => S.le S' ∧ S'.box b2 = some (leafL l) ∧ S'.box b3 = some (markL m)) ⟨hle.newBox hb3 _, (box_new_ne _ _ n2_3).trans k2, box_new _ _ _⟩ ?_
  clear hle hb3 k2
  rintro S3 ⟨hle, k2, k3⟩
  cases hr : rightL l with
  | false =>
    rw [hr] at c1
    have e : findL l m = (0, false) := by unfold findL; rw [hr]; rfl
    repeat (first | refine LOps.valH (LVal.load hD rfl rfl k2 rfl (rdLeaf l)) ?_ | refine LWp.condT rfl ?_ | refine LOps.nil ?_ | refine andThen_normal ?_ | refine andThen_exit ?_ | refine andThen_ret ?_ | refine inBlock_normal ?_ | refine inBlock_ret ?_ | refine inBlock_here ?_ | refine inBlock_out rfl ?_ | refine LWp.seq ?_ | refine LWp.region ?_ | refine LWp.block ?_ | refine LWp.exit ?_ | refine LWp.ret ?_ | refine LWp.skip ?_ | refine LOps.val (LVal.call rfl rfl (by rw [hP]; exact Try.func20) rfl (by decide) (c1)) rfl rfl rfl ?_ | refine LOps.whenC (LVal.call rfl rfl (by rw [hP]; exact Try.func20) rfl (by decide) (c1)) ?_ | refine LOps.valA ?_ | refine LOps.outA ?_ | refine LOps.whenA ?_ | refine LOps.pickA ?_ | refine LOps.storeA ?_)
    refine ⟨_, LRes.many rfl rfl (.cons (.tmp _) (.cons (.tmp _) .nil)), ?_, hle⟩
    rw [e]; rfl
  | true =>
    have hf := (fit_iff l).1 hr
    have hu : usesL l = useOf l (l.p % 16) := by unfold usesL usedN; rw [rt_yes hf.rt]; rfl
    rw [hr] at c1
    rw [hu] at c2
    have hn := hf.le
    have fd := found hf m
    obtain ⟨i, is, hfi⟩ : ∃ i is, findL l m = (i, is) := ⟨_, _, rfl⟩
    rw [hfi] at fd
    have fd : Found l m i is := fd
    have hle2 := fd.le
    have hless := fun j hj => found_less fd (j := j) hj
    have heq := fun j hj => found_eq fd (j := j) hj
    have hend : (is && decide (i < l.p % 16)) = is := by
      cases is with
      | false => rfl
      | true => rw [decide_eq_true (fd.at_ rfl).1]; rfl
    have hok : ∀ j, j < l.p % 16 → (l.rank j).m.ok := fun j hj => rank_ok hl (rt_yes hf.rt) (by omega)
    clear fd
    have hget := fun j hj => useOf_get l (n := l.p % 16) (j := j) hj
    have hln := useOf_len l (l.p % 16)
    rw [hfi]
    generalize l.p % 16 = n at *
    generalize hL : useOf l n = L at *
    repeat (first | refine LOps.valH (LVal.load hD rfl rfl k2 rfl (rdLeaf l)) ?_ | refine LWp.condF rfl ?_ | refine LOps.nil ?_ | refine andThen_normal ?_ | refine andThen_exit ?_ | refine andThen_ret ?_ | refine inBlock_normal ?_ | refine inBlock_ret ?_ | refine inBlock_here ?_ | refine inBlock_out rfl ?_ | refine LWp.seq ?_ | refine LWp.region ?_ | refine LWp.block ?_ | refine LWp.exit ?_ | refine LWp.ret ?_ | refine LWp.skip ?_ | refine LOps.val (LVal.call rfl rfl (by rw [hP]; exact Try.func20) rfl (by decide) (c1)) rfl rfl rfl ?_ | refine LOps.val (LVal.call rfl rfl (by rw [hP]; exact Try.func26) rfl (by decide) (c2)) rfl rfl rfl ?_ | refine LOps.whenC (LVal.call rfl rfl (by rw [hP]; exact Try.func20) rfl (by decide) (c1)) ?_ | refine LOps.whenC (LVal.call rfl rfl (by rw [hP]; exact Try.func26) rfl (by decide) (c2)) ?_ | refine LOps.valA ?_ | refine LOps.outA ?_ | refine LOps.whenA ?_ | refine LOps.pickA ?_ | refine LOps.storeA ?_)
    refine LWp.loop (fun q T S' => ∃ (T' : Nat → TV) (j : Nat), j ≤ n ∧ q = n - j ∧ S' = S3 ∧ T = over T' [(2, ptr b2), (3, ptr b3), (6, .one (.sl .sh (sList L))), (7, .one (iv ((min j i : Nat) : Int))), (8, .one (bv (is && decide (i < j)))), (9, .one (iv (j : Nat)))]) n ?_ ?_
    · refine ⟨_, 0, by omega, rfl, rfl, holds.over ⟨rfl, rfl, rfl, ?_, ?_, rfl, trivial⟩⟩
      · exact congrArg (fun q : Nat => TV.one (iv (q : Int))) (show 0 = min 0 i by omega)
      · exact congrArg (fun q => TV.one (bv q)) (by rw [decide_eq_false (by omega), Bool.and_false])
    rintro q T S4 ⟨T', j, hj, rfl, rfl, rfl⟩
    repeat (first | refine LOps.nil ?_ | refine andThen_normal ?_ | refine andThen_exit ?_ | refine andThen_ret ?_ | refine inBlock_normal ?_ | refine inBlock_ret ?_ | refine inBlock_here ?_ | refine inBlock_out rfl ?_ | refine LWp.seq ?_ | refine LWp.region ?_ | refine LWp.block ?_ | refine LWp.exit ?_ | refine LWp.ret ?_ | refine LWp.skip ?_ | refine LOps.valA ?_ | refine LOps.outA ?_ | refine LOps.whenA ?_ | refine LOps.pickA ?_ | refine LOps.storeA ?_)
    refine LWp.cond rfl (fun h => ?_) (fun h => ?_)
    · have hlt : j < n := by
        have h : decide ((j : Int) < (((sList L).length : Nat) : Int)) = true := h
        rw [decide_eq_true_iff, List.length_map, hln] at h; omega
      clear h
      have c3 := refLess_M hP (l.rank j).m m (hok j hlt) hm
      rw [hless j hlt] at c3
      have hUj := hget j hlt
      have he := heq j hlt
      have hmn : j < i → ((min j i : Nat) : Int) + 1 = ((min (j + 1) i : Nat) : Int) := fun _ => by omega
      have hmn2 : ¬ j < i → min j i = min (j + 1) i := fun _ => by omega
      by_cases hji : j < i
      · rw [decide_eq_true hji] at c3
        have e0 : (is && decide (i < j)) = false := by rw [decide_eq_false (by omega), Bool.and_false]
        have e1 : eqM (l.rank j).m m = (is && decide (i < j + 1)) := by rw [he, decide_eq_false (by omega), decide_eq_false (by omega)]
        rw [e0]
        have hm1 := hmn hji
        clear hmn hmn2 he hless heq hget
        repeat (first | refine LOps.nil ?_ | refine andThen_normal ?_ | refine andThen_exit ?_ | refine andThen_ret ?_ | refine inBlock_normal ?_ | refine inBlock_ret ?_ | refine inBlock_here ?_ | refine inBlock_out rfl ?_ | refine LWp.seq ?_ | refine LWp.region ?_ | refine LWp.block ?_ | refine LWp.exit ?_ | refine LWp.ret ?_ | refine LWp.skip ?_ | refine LOps.valA ?_ | refine LOps.outA ?_ | refine LOps.whenA ?_ | refine LOps.pickA ?_ | refine LOps.storeA ?_)
        refine LWp.drawL [0, 1, 2, 3, 4, 5, 6] (by rw [hP]; rfl) rfl ?_
        repeat (first | refine LRl.val (fun _ _ => LVal.indexLit hD rfl rfl rfl (n := j) rfl rfl rfl rfl hUj rfl) rfl rfl rfl ?_ | refine LRl.valC (fun _ => (LVal.call rfl rfl (by rw [hP]; exact Try.func34) rfl (by decide) (c3))) ?_ | refine LRl.whenC (fun _ => (LVal.call rfl rfl (by rw [hP]; exact Try.func34) rfl (by decide) (c3))) ?_ | refine LRl.nil ?_ | refine LRl.valA ?_ | refine LRl.outA ?_ | refine LRl.whenA ?_ | refine LRl.pickA ?_)
        repeat (first | refine LWp.condT rfl ?_ | refine LOps.nil ?_ | refine andThen_normal ?_ | refine andThen_exit ?_ | refine andThen_ret ?_ | refine inBlock_normal ?_ | refine inBlock_ret ?_ | refine inBlock_here ?_ | refine inBlock_out rfl ?_ | refine LWp.seq ?_ | refine LWp.region ?_ | refine LWp.block ?_ | refine LWp.exit ?_ | refine LWp.ret ?_ | refine LWp.skip ?_ | refine LOps.valA ?_ | refine LOps.outA ?_ | refine LOps.whenA ?_ | refine LOps.pickA ?_ | refine LOps.storeA ?_)
        refine LWp.drawL [0, 1, 2, 3, 4, 5, 6, 7, 8, 9, 10] (by rw [hP]; rfl) rfl ?_
        repeat (first | refine LRl.val (fun _ _ => LVal.indexLit hD rfl rfl rfl (n := j) rfl rfl rfl rfl hUj rfl) rfl rfl rfl ?_ | refine LRl.val (fun _ _ => LVal.to (LVal.binOp hD rfl rfl rfl rfl) (r' := .one (.v (.bool true))) (congrArg (fun b => TV.one (.v (.bool b))) (by first | exact decide_eq_true (by omega) | (rw [beq_iff_eq]; omega) | (rw [bne_iff_ne]; omega)))) rfl rfl rfl ?_ | refine LRl.val (fun _ _ => LVal.to (LVal.binOp hD rfl rfl rfl rfl) (r' := .one (.v (.bool false))) (congrArg (fun b => TV.one (.v (.bool b))) (by first | exact decide_eq_false (by omega) | (rw [beq_eq_false_iff_ne]; omega) | (rw [bne_eq_false_iff_eq]; omega)))) rfl rfl rfl ?_ | refine LRl.valW ?_ | refine LRl.nil ?_ | refine LRl.valA ?_ | refine LRl.outA ?_ | refine LRl.whenA ?_ | refine LRl.pickA ?_)
        repeat (first | refine LOps.nil ?_ | refine andThen_normal ?_ | refine andThen_exit ?_ | refine andThen_ret ?_ | refine inBlock_normal ?_ | refine inBlock_ret ?_ | refine inBlock_here ?_ | refine inBlock_out rfl ?_ | refine LWp.seq ?_ | refine LWp.region ?_ | refine LWp.block ?_ | refine LWp.exit ?_ | refine LWp.ret ?_ | refine LWp.skip ?_ | refine LOps.valA ?_ | refine LOps.outA ?_ | refine LOps.whenA ?_ | refine LOps.pickA ?_ | refine LOps.storeA ?_)
        exact ⟨n - (j + 1), by omega, _, j + 1, by omega, rfl, rfl, holds.over ⟨rfl, rfl, rfl, congrArg (fun q => TV.one (iv q)) hm1, congrArg (fun q => TV.one (bv q)) ((eqM_cells _ _).trans e1), rfl, trivial⟩⟩
      · rw [decide_eq_false hji] at c3
        have hm1 := hmn2 hji
        have e1 : (is && decide (i < j)) = false → eqM (l.rank j).m m = (is && decide (i < j + 1)) := fun h0 => by
          rw [he]
          rcases Nat.lt_or_ge i j with h2 | h2
          · rw [decide_eq_true h2, Bool.and_true] at h0; rw [h0]; rfl
          · rw [decide_eq_true (show j = i by omega), decide_eq_true (show i < j + 1 by omega)]
        have e2 : (is && decide (i < j)) = true → true = (is && decide (i < j + 1)) := fun h0 => by
          rw [Bool.and_eq_true, decide_eq_true_iff] at h0
          rw [h0.1, decide_eq_true (show i < j + 1 by omega)]; rfl
        clear hmn hmn2 he hless heq hget
        cases hb : (is && decide (i < j)) with
        | false =>
          have e1 := e1 hb
          clear e2
          repeat (first | refine LOps.nil ?_ | refine andThen_normal ?_ | refine andThen_exit ?_ | refine andThen_ret ?_ | refine inBlock_normal ?_ | refine inBlock_ret ?_ | refine inBlock_here ?_ | refine inBlock_out rfl ?_ | refine LWp.seq ?_ | refine LWp.region ?_ | refine LWp.block ?_ | refine LWp.exit ?_ | refine LWp.ret ?_ | refine LWp.skip ?_ | refine LOps.valA ?_ | refine LOps.outA ?_ | refine LOps.whenA ?_ | refine LOps.pickA ?_ | refine LOps.storeA ?_)
          refine LWp.drawL [0, 1, 2, 3, 4, 5, 6] (by rw [hP]; rfl) rfl ?_
          repeat (first | refine LRl.val (fun _ _ => LVal.indexLit hD rfl rfl rfl (n := j) rfl rfl rfl rfl hUj rfl) rfl rfl rfl ?_ | refine LRl.valC (fun _ => (LVal.call rfl rfl (by rw [hP]; exact Try.func34) rfl (by decide) (c3))) ?_ | refine LRl.whenC (fun _ => (LVal.call rfl rfl (by rw [hP]; exact Try.func34) rfl (by decide) (c3))) ?_ | refine LRl.nil ?_ | refine LRl.valA ?_ | refine LRl.outA ?_ | refine LRl.whenA ?_ | refine LRl.pickA ?_)
          repeat (first | refine LWp.condF rfl ?_ | refine LOps.nil ?_ | refine andThen_normal ?_ | refine andThen_exit ?_ | refine andThen_ret ?_ | refine inBlock_normal ?_ | refine inBlock_ret ?_ | refine inBlock_here ?_ | refine inBlock_out rfl ?_ | refine LWp.seq ?_ | refine LWp.region ?_ | refine LWp.block ?_ | refine LWp.exit ?_ | refine LWp.ret ?_ | refine LWp.skip ?_ | refine LOps.valA ?_ | refine LOps.outA ?_ | refine LOps.whenA ?_ | refine LOps.pickA ?_ | refine LOps.storeA ?_)
          refine LWp.drawL [0, 1, 2, 3, 4, 5, 6, 7, 8, 9, 10] (by rw [hP]; rfl) rfl ?_
          repeat (first | refine LRl.val (fun _ _ => LVal.indexLit hD rfl rfl rfl (n := j) rfl rfl rfl rfl hUj rfl) rfl rfl rfl ?_ | refine LRl.val (fun _ _ => LVal.to (LVal.binOp hD rfl rfl rfl rfl) (r' := .one (.v (.bool true))) (congrArg (fun b => TV.one (.v (.bool b))) (by first | exact decide_eq_true (by omega) | (rw [beq_iff_eq]; omega) | (rw [bne_iff_ne]; omega)))) rfl rfl rfl ?_ | refine LRl.val (fun _ _ => LVal.to (LVal.binOp hD rfl rfl rfl rfl) (r' := .one (.v (.bool false))) (congrArg (fun b => TV.one (.v (.bool b))) (by first | exact decide_eq_false (by omega) | (rw [beq_eq_false_iff_ne]; omega) | (rw [bne_eq_false_iff_eq]; omega)))) rfl rfl rfl ?_ | refine LRl.valW ?_ | refine LRl.nil ?_ | refine LRl.valA ?_ | refine LRl.outA ?_ | refine LRl.whenA ?_ | refine LRl.pickA ?_)
          repeat (first | refine LOps.nil ?_ | refine andThen_normal ?_ | refine andThen_exit ?_ | refine andThen_ret ?_ | refine inBlock_normal ?_ | refine inBlock_ret ?_ | refine inBlock_here ?_ | refine inBlock_out rfl ?_ | refine LWp.seq ?_ | refine LWp.region ?_ | refine LWp.block ?_ | refine LWp.exit ?_ | refine LWp.ret ?_ | refine LWp.skip ?_ | refine LOps.valA ?_ | refine LOps.outA ?_ | refine LOps.whenA ?_ | refine LOps.pickA ?_ | refine LOps.storeA ?_)
          exact ⟨n - (j + 1), by omega, _, j + 1, by omega, rfl, rfl, holds.over ⟨rfl, rfl, rfl, congrArg (fun q : Nat => TV.one (iv (q : Int))) hm1, congrArg (fun q => TV.one (bv q)) ((eqM_cells _ _).trans e1), rfl, trivial⟩⟩
        | true =>
          have e2 := e2 hb
          clear e1
          repeat (first | refine LOps.nil ?_ | refine andThen_normal ?_ | refine andThen_exit ?_ | refine andThen_ret ?_ | refine inBlock_normal ?_ | refine inBlock_ret ?_ | refine inBlock_here ?_ | refine inBlock_out rfl ?_ | refine LWp.seq ?_ | refine LWp.region ?_ | refine LWp.block ?_ | refine LWp.exit ?_ | refine LWp.ret ?_ | refine LWp.skip ?_ | refine LOps.valA ?_ | refine LOps.outA ?_ | refine LOps.whenA ?_ | refine LOps.pickA ?_ | refine LOps.storeA ?_)
          refine LWp.drawL [0, 1, 2, 3, 4, 5, 6] (by rw [hP]; rfl) rfl ?_
          repeat (first | refine LRl.val (fun _ _ => LVal.indexLit hD rfl rfl rfl (n := j) rfl rfl rfl rfl hUj rfl) rfl rfl rfl ?_ | refine LRl.valC (fun _ => (LVal.call rfl rfl (by rw [hP]; exact Try.func34) rfl (by decide) (c3))) ?_ | refine LRl.whenC (fun _ => (LVal.call rfl rfl (by rw [hP]; exact Try.func34) rfl (by decide) (c3))) ?_ | refine LRl.nil ?_ | refine LRl.valA ?_ | refine LRl.outA ?_ | refine LRl.whenA ?_ | refine LRl.pickA ?_)
          repeat (first | refine LWp.condF rfl ?_ | refine LOps.nil ?_ | refine andThen_normal ?_ | refine andThen_exit ?_ | refine andThen_ret ?_ | refine inBlock_normal ?_ | refine inBlock_ret ?_ | refine inBlock_here ?_ | refine inBlock_out rfl ?_ | refine LWp.seq ?_ | refine LWp.region ?_ | refine LWp.block ?_ | refine LWp.exit ?_ | refine LWp.ret ?_ | refine LWp.skip ?_ | refine LOps.valA ?_ | refine LOps.outA ?_ | refine LOps.whenA ?_ | refine LOps.pickA ?_ | refine LOps.storeA ?_)
          refine LWp.drawL [0, 1, 2, 3, 4, 5, 6, 7, 8, 9, 10] (by rw [hP]; rfl) rfl ?_
          repeat (first | refine LRl.val (fun _ _ => LVal.to (LVal.binOp hD rfl rfl rfl rfl) (r' := .one (.v (.bool true))) (congrArg (fun b => TV.one (.v (.bool b))) (by first | exact decide_eq_true (by omega) | (rw [beq_iff_eq]; omega) | (rw [bne_iff_ne]; omega)))) rfl rfl rfl ?_ | refine LRl.val (fun _ _ => LVal.to (LVal.binOp hD rfl rfl rfl rfl) (r' := .one (.v (.bool false))) (congrArg (fun b => TV.one (.v (.bool b))) (by first | exact decide_eq_false (by omega) | (rw [beq_eq_false_iff_ne]; omega) | (rw [bne_eq_false_iff_eq]; omega)))) rfl rfl rfl ?_ | refine LRl.valW ?_ | refine LRl.nil ?_ | refine LRl.valA ?_ | refine LRl.outA ?_ | refine LRl.whenA ?_ | refine LRl.pickA ?_)
          repeat (first | refine LOps.nil ?_ | refine andThen_normal ?_ | refine andThen_exit ?_ | refine andThen_ret ?_ | refine inBlock_normal ?_ | refine inBlock_ret ?_ | refine inBlock_here ?_ | refine inBlock_out rfl ?_ | refine LWp.seq ?_ | refine LWp.region ?_ | refine LWp.block ?_ | refine LWp.exit ?_ | refine LWp.ret ?_ | refine LWp.skip ?_ | refine LOps.valA ?_ | refine LOps.outA ?_ | refine LOps.whenA ?_ | refine LOps.pickA ?_ | refine LOps.storeA ?_)
          exact ⟨n - (j + 1), by omega, _, j + 1, by omega, rfl, rfl, holds.over ⟨rfl, rfl, rfl, congrArg (fun q : Nat => TV.one (iv (q : Int))) hm1, congrArg (fun q => TV.one (bv q)) e2, rfl, trivial⟩⟩
    · have hge : j = n := by
        have h : decide ((j : Int) < (((sList L).length : Nat) : Int)) = false := h
        rw [decide_eq_false_iff_not, List.length_map, hln] at h; omega
      subst hge
      have hmn : min j i = i := by omega
      rw [hend, hmn]
      repeat (first | refine LOps.nil ?_ | refine andThen_normal ?_ | refine andThen_exit ?_ | refine andThen_ret ?_ | refine inBlock_normal ?_ | refine inBlock_ret ?_ | refine inBlock_here ?_ | refine inBlock_out rfl ?_ | refine LWp.seq ?_ | refine LWp.region ?_ | refine LWp.block ?_ | refine LWp.exit ?_ | refine LWp.ret ?_ | refine LWp.skip ?_ | refine LOps.valA ?_ | refine LOps.outA ?_ | refine LOps.whenA ?_ | refine LOps.pickA ?_ | refine LOps.storeA ?_)
      exact ⟨_, LRes.many rfl rfl (.cons (.tmp _) (.cons (.tmp _) .nil)), rfl, hle⟩
end Go.Proofs.Ytgkjhlmfgaaddaa.LF
