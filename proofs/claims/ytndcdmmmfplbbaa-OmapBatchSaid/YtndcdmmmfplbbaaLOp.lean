/- The walk of the law 'OmapApart'. (Printed by gen_apart.py.) -/
import Derived.Test.YtndcdmmmfplbbaaLOo
set_option linter.unusedVariables false
set_option linter.unusedSimpArgs false
namespace Go.Proofs.Ytndcdmmmfplbbaa.LF
open Go.RowKit
set_option linter.unusedVariables false

theorem NewO.of_new {S0 S S' : LS} {b : Nat} {X : LV} (hle : S0.le S) (k : S.le S') (nb : S.box b = none) (nx : ∀ c, blockOf X = some c → S.box c = none) : NewO S0 S' b X := by
  have hno : ∀ c, S.box c = none → S0.box c = none := fun c hc => by
    cases hq : S0.box c with
    | none => rfl
    | some cs => rw [hle.box c cs hq] at hc; cases hc
  exact ⟨hle.trans k, hno b nb, fun c hc => hno c (nx c hc)⟩
/-- Only these slots count from here. -/
theorem LOps.slots {G : Ctx} {M : Option Nat} {n : Nat} {ops : Array Oper} {l : List Oper} {Q : (Nat → TV) → LS → Prop} {T : Nat → TV} {S : LS} (L : List (Nat × TV)) (h : holds T L) (k : ∀ T', LOps G M n ops l Q (over T' L) S) : LOps G M n ops l Q T S := by
  rw [h.over]; exact k T
theorem LWp.slots {G : Ctx} {M : Option Nat} {n : Nat} {c : Code} {Q : Exit → (Nat → TV) → LS → Prop} {T : Nat → TV} {S : LS} (L : List (Nat × TV)) (h : holds T L) (k : ∀ T', LWp G M n c Q (over T' L) S) : LWp G M n c Q T S := by
  rw [h.over]; exact k T
theorem any_take {α : Type} {p : α → Bool} {l : List α} {j : Nat} (h : j < l.length) : (l.take (j + 1)).any p = ((l.take j).any p || p l[j]) := by
  rw [List.take_succ_eq_append_getElem h, List.any_append]; simp
theorem any_eqPr {l : List Pr} {p : Pr} (h : p ∈ l) : (l.any fun q => eqPr q p) = true := List.any_eq_true.2 ⟨p, h, by rw [eqPr_iff]; simp⟩

set_option maxHeartbeats 32000000 in
set_option maxRecDepth 20000 in
theorem apart_L {G : Ctx} (hP : G.P = Try.prog) (l : List Pr) (x y : OpV) (S : LS) : LCalls G 8 [.one (.sl .sh (l.map prL)), .agg (opL x), .agg (opL y)] (fun r _ => r = .one (bv true)) S := by
  have hD : TabOK G.P D := by rw [hP]; exact hD0
  have ea : EqTy G.P D 50 := by rw [hP]; exact ⟨by kernel_rfl, by kernel_rfl⟩
  have ec : EqTy G.P D 35 := by rw [hP]; exact ⟨by kernel_rfl, by kernel_rfl⟩
  have cg := great_F hP l [x, y]
  have cw := wakes_F hP
  refine LCalls.enter (fn := Try.f8) (by rw [hP]; exact Try.func8) rfl rfl ?_
  repeat (first | refine LOps.nil ?_ | refine andThen_normal ?_ | refine andThen_exit ?_ | refine andThen_ret ?_ | refine inBlock_normal ?_ | refine inBlock_ret ?_ | refine inBlock_here ?_ | refine inBlock_out rfl ?_ | refine LWp.seq ?_ | refine LWp.region ?_ | refine LWp.block ?_ | refine LWp.exit ?_ | refine LWp.ret ?_ | refine LWp.skip ?_ | refine LOps.valA ?_ | refine LOps.outA ?_ | refine LOps.whenA ?_ | refine LOps.pickA ?_ | refine LOps.storeA ?_)
  have hle := LS.le.refl S
  refine LOps.do (LDo.box rfl rfl) rfl rfl rfl ?_
  rintro _ _ ⟨b4, hb4, rfl, rfl⟩
  have s4 := hle.none hb4
  refine LOps.gen (fun S' => S.le S' ∧ S'.box b4 = some (opL x)) ⟨hle.newBox hb4 _, box_new _ _ _⟩ ?_
  clear hle hb4 
  rintro S4 ⟨hle, k4⟩
  skip
  refine LOps.do (LDo.box rfl rfl) rfl rfl rfl ?_
  rintro _ _ ⟨b5, hb5, rfl, rfl⟩
  have n4_5 := fresh_ne hb5 k4
  have m5_4 := n4_5.symm
  have s5 := hle.none hb5
  refine LOps.gen (fun S' => S.le S' ∧ S'.box b4 = some (opL x) ∧ S'.box b5 = some (opL y)) ⟨hle.newBox hb5 _, (box_new_ne _ _ n4_5).trans k4, box_new _ _ _⟩ ?_
  clear hle hb5 k4
  rintro S5 ⟨hle, k4, k5⟩
  repeat (first | refine LOps.valH (LVal.load hD rfl rfl k4 rfl rfl) ?_ | refine LOps.valH (LVal.load hD rfl rfl k5 rfl rfl) ?_ | refine LOps.valH (LVal.to (LVal.buildSlice (n := 2) (ps := [(0, .tmp 26), (1, .tmp 27)]) (lp := [(0, opL x), (1, opL y)]) (l := opL x ++ opL y) hD rfl rfl rfl rfl rfl rfl rfl rfl rfl rfl) (r' := .one (.sl .sh ([x, y].map opL))) rfl) ?_ | refine LOps.nil ?_ | refine andThen_normal ?_ | refine andThen_exit ?_ | refine andThen_ret ?_ | refine inBlock_normal ?_ | refine inBlock_ret ?_ | refine inBlock_here ?_ | refine inBlock_out rfl ?_ | refine LWp.seq ?_ | refine LWp.region ?_ | refine LWp.block ?_ | refine LWp.exit ?_ | refine LWp.ret ?_ | refine LWp.skip ?_ | refine LOps.val (LVal.call rfl rfl (by rw [hP]; exact Try.func9) rfl (by decide) (cg)) rfl rfl rfl ?_ | refine LOps.whenC (LVal.call rfl rfl (by rw [hP]; exact Try.func9) rfl (by decide) (cg)) ?_ | refine LOps.valA ?_ | refine LOps.outA ?_ | refine LOps.whenA ?_ | refine LOps.pickA ?_ | refine LOps.storeA ?_)
  refine LWp.cond rfl (fun h => ?_) (fun h => ?_)
  · repeat (first | refine LOps.nil ?_ | refine andThen_normal ?_ | refine andThen_exit ?_ | refine andThen_ret ?_ | refine inBlock_normal ?_ | refine inBlock_ret ?_ | refine inBlock_here ?_ | refine inBlock_out rfl ?_ | refine LWp.seq ?_ | refine LWp.region ?_ | refine LWp.block ?_ | refine LWp.exit ?_ | refine LWp.ret ?_ | refine LWp.skip ?_ | refine LOps.val (LVal.call rfl rfl (by rw [hP]; exact Try.func10) rfl (by decide) (cw)) rfl rfl rfl ?_ | refine LOps.whenC (LVal.call rfl rfl (by rw [hP]; exact Try.func10) rfl (by decide) (cw)) ?_ | refine LOps.valA ?_ | refine LOps.outA ?_ | refine LOps.whenA ?_ | refine LOps.pickA ?_ | refine LOps.storeA ?_)
    exact ⟨_, LRes.one rfl, rfl⟩
  have h : greatS l [x, y] = false := h
  have hf := fine_of h
  have hx := fineO_of (hf.os x (by simp))
  have hy := fineO_of (hf.os y (by simp))
  have hnl := newP_length l
  have hfl := hf.nl
  have hxw := hx.n
  have hyw := hy.n
  have hs := newP_srt l
  have hlx := doM_length (newP l) x
  have hly := doM_length (newP l) y
  have hlxy := doM_length (doM (newP l) x) y
  have hlyx := doM_length (doM (newP l) y) x
  clear h
  repeat (first | refine LOps.nil ?_ | refine andThen_normal ?_ | refine andThen_exit ?_ | refine andThen_ret ?_ | refine inBlock_normal ?_ | refine inBlock_ret ?_ | refine inBlock_here ?_ | refine inBlock_out rfl ?_ | refine LWp.seq ?_ | refine LWp.region ?_ | refine LWp.block ?_ | refine LWp.exit ?_ | refine LWp.ret ?_ | refine LWp.skip ?_ | refine LOps.valA ?_ | refine LOps.outA ?_ | refine LOps.whenA ?_ | refine LOps.pickA ?_ | refine LOps.storeA ?_)
  refine LOps.do (LDo.callX (new_L hP .sh l (by omega) S5) (by rw [hP]; exact Try.func11)) rfl rfl rfl ?_
  rintro _ S6 ⟨b, X, rfl, m, h1, h2, h3⟩
  have nw : NewO S5 S6 b X := ⟨h1, h2, h3⟩
  clear h1 h2 h3
  repeat (first | refine LOps.valH (LDo.toVal (LDo.callX (allV_L hP (newP l) (by omega) b X S6 m) (by rw [hP]; exact Try.func14))) ?_ | refine LOps.nil ?_ | refine andThen_normal ?_ | refine andThen_exit ?_ | refine andThen_ret ?_ | refine inBlock_normal ?_ | refine inBlock_ret ?_ | refine inBlock_here ?_ | refine inBlock_out rfl ?_ | refine LWp.seq ?_ | refine LWp.region ?_ | refine LWp.block ?_ | refine LWp.exit ?_ | refine LWp.ret ?_ | refine LWp.skip ?_ | refine LOps.valA ?_ | refine LOps.outA ?_ | refine LOps.whenA ?_ | refine LOps.pickA ?_ | refine LOps.storeA ?_)
  have q4 := nw.le.box _ _ k4
  repeat (first | refine LOps.valH (LVal.load hD rfl rfl q4 rfl rfl) ?_ | refine LOps.nil ?_ | refine andThen_normal ?_ | refine andThen_exit ?_ | refine andThen_ret ?_ | refine inBlock_normal ?_ | refine inBlock_ret ?_ | refine inBlock_here ?_ | refine inBlock_out rfl ?_ | refine LWp.seq ?_ | refine LWp.region ?_ | refine LWp.block ?_ | refine LWp.exit ?_ | refine LWp.ret ?_ | refine LWp.skip ?_ | refine LOps.valA ?_ | refine LOps.outA ?_ | refine LOps.whenA ?_ | refine LOps.pickA ?_ | refine LOps.storeA ?_)
  refine LOps.do (LDo.callF (do_L hP (newP l) (by omega) x b X S6 m) (by rw [hP]; exact Try.func16)) rfl rfl rfl ?_
  rintro _ S7 ⟨rfl, X, m, mv⟩
  replace nw := nw.mv mv
  clear mv q4
  have hle7 := nw.le
  have q4 := hle7.box _ _ k4
  have q5 := hle7.box _ _ k5
  repeat (first | (refine LOps.valH (LDo.toVal (LDo.callX (allV_L hP (doM (newP l) x) (by omega) b X S7 m) (by rw [hP]; exact Try.func14))) ?_) | (refine LWp.seq (LWp.cut 7 (fun T' S' => S' = S7 ∧ ∃ (T'' : Nat → TV), T' = over T'' [(0, .one (.sl .sh (l.map prL))), (4, ptr b4), (5, ptr b5), (8, .one (.sl .sh ((newP l).map prL))), (9, .one (.sl .sh ((doM (newP l) x).map prL)))]) rfl ?_ ?_); rotate_left) | refine LOps.nil ?_ | refine andThen_normal ?_ | refine andThen_exit ?_ | refine andThen_ret ?_ | refine inBlock_normal ?_ | refine inBlock_ret ?_ | refine inBlock_here ?_ | refine inBlock_out rfl ?_ | refine LWp.seq ?_ | refine LWp.region ?_ | refine LWp.block ?_ | refine LWp.exit ?_ | refine LWp.ret ?_ | refine LWp.skip ?_ | refine LOps.valA ?_ | refine LOps.outA ?_ | refine LOps.whenA ?_ | refine LOps.pickA ?_ | refine LOps.storeA ?_)
  rotate_left
  · have hwl : ((newP l).map prL).length = (newP l).length := List.length_map ..
    have hnw : ((doM (newP l) x).map prL).length = (doM (newP l) x).length := List.length_map ..
    repeat (first | refine LOps.nil ?_ | refine andThen_normal ?_ | refine andThen_exit ?_ | refine andThen_ret ?_ | refine inBlock_normal ?_ | refine inBlock_ret ?_ | refine inBlock_here ?_ | refine inBlock_out rfl ?_ | refine LWp.seq ?_ | refine LWp.region ?_ | refine LWp.block ?_ | refine LWp.exit ?_ | refine LWp.ret ?_ | refine LWp.skip ?_ | refine LOps.valA ?_ | refine LOps.outA ?_ | refine LOps.whenA ?_ | refine LOps.pickA ?_ | refine LOps.storeA ?_)
    refine LWp.loop (fun m T S' => S' = S7 ∧ ∃ (T' : Nat → TV) (i : Nat), i ≤ (newP l).length ∧ m = (newP l).length - i ∧ T = over T' [(0, .one (.sl .sh (l.map prL))), (4, ptr b4), (5, ptr b5), (8, .one (.sl .sh ((newP l).map prL))), (9, .one (.sl .sh ((doM (newP l) x).map prL))), (10, .one (iv (i : Nat)))]) (newP l).length ?_ ?_
    · exact ⟨rfl, _, 0, by omega, by omega, holds.over ⟨rfl, rfl, rfl, rfl, rfl, rfl, trivial⟩⟩
    rintro m T Sa ⟨hSa, T', i, hi, rfl, rfl⟩
    subst hSa
    repeat (first | refine LOps.nil ?_ | refine andThen_normal ?_ | refine andThen_exit ?_ | refine andThen_ret ?_ | refine inBlock_normal ?_ | refine inBlock_ret ?_ | refine inBlock_here ?_ | refine inBlock_out rfl ?_ | refine LWp.seq ?_ | refine LWp.region ?_ | refine LWp.block ?_ | refine LWp.exit ?_ | refine LWp.ret ?_ | refine LWp.skip ?_ | refine LOps.valA ?_ | refine LOps.outA ?_ | refine LOps.whenA ?_ | refine LOps.pickA ?_ | refine LOps.storeA ?_)
    refine LWp.cond rfl (fun h => ?_) (fun h => ?_)
    · have hlt : i < (newP l).length := by simp at h; omega
      have cn := names_F hP x (by omega) (newP l)[i].key
      repeat (first | refine LOps.nil ?_ | refine andThen_normal ?_ | refine andThen_exit ?_ | refine andThen_ret ?_ | refine inBlock_normal ?_ | refine inBlock_ret ?_ | refine inBlock_here ?_ | refine inBlock_out rfl ?_ | refine LWp.seq ?_ | refine LWp.region ?_ | refine LWp.block ?_ | refine LWp.exit ?_ | refine LWp.ret ?_ | refine LWp.skip ?_ | refine LOps.valA ?_ | refine LOps.outA ?_ | refine LOps.whenA ?_ | refine LOps.pickA ?_ | refine LOps.storeA ?_)
      refine LWp.drawL [0, 1, 2, 3, 4, 5, 6] (by rw [hP]; rfl) rfl ?_
      repeat (first | refine LRl.val (fun _ hS => LVal.load hD rfl rfl (hS.box _ _ q4 id) rfl rfl) rfl rfl rfl ?_ | refine LRl.valC (fun _ => (LVal.call rfl rfl (by rw [hP]; exact Try.func23) rfl (by decide) (cn))) ?_ | refine LRl.whenC (fun _ => (LVal.call rfl rfl (by rw [hP]; exact Try.func23) rfl (by decide) (cn))) ?_ | refine LRl.nil ?_ | refine LRl.valA ?_ | refine LRl.outA ?_ | refine LRl.whenA ?_ | refine LRl.pickA ?_)
      repeat (first | refine LOps.nil ?_ | refine andThen_normal ?_ | refine andThen_exit ?_ | refine andThen_ret ?_ | refine inBlock_normal ?_ | refine inBlock_ret ?_ | refine inBlock_here ?_ | refine inBlock_out rfl ?_ | refine LWp.seq ?_ | refine LWp.region ?_ | refine LWp.block ?_ | refine LWp.exit ?_ | refine LWp.ret ?_ | refine LWp.skip ?_ | refine LOps.valA ?_ | refine LOps.outA ?_ | refine LOps.whenA ?_ | refine LOps.pickA ?_ | refine LOps.storeA ?_)
      refine LWp.cond rfl (fun hn => ?_) (fun hn => ?_)
      · repeat (first | refine LOps.nil ?_ | refine andThen_normal ?_ | refine andThen_exit ?_ | refine andThen_ret ?_ | refine inBlock_normal ?_ | refine inBlock_ret ?_ | refine inBlock_here ?_ | refine inBlock_out rfl ?_ | refine LWp.seq ?_ | refine LWp.region ?_ | refine LWp.block ?_ | refine LWp.exit ?_ | refine LWp.ret ?_ | refine LWp.skip ?_ | refine LOps.valA ?_ | refine LOps.outA ?_ | refine LOps.whenA ?_ | refine LOps.pickA ?_ | refine LOps.storeA ?_)
        exact ⟨(newP l).length - (i + 1), by omega, rfl, _, i + 1, by omega, rfl, holds.over ⟨rfl, rfl, rfl, rfl, rfl, rfl, trivial⟩⟩
      have hn : namesS x (newP l)[i].key = false := hn
      have hmem : (newP l)[i] ∈ doM (newP l) x := (mem_doM_out hs x hn).2 (List.getElem_mem hlt)
      repeat (first | (refine LWp.seq (LWp.cut 12 (fun T' S' => S' = Sa ∧ ∃ (T'' : Nat → TV), T' = over T'' [(0, .one (.sl .sh (l.map prL))), (4, ptr b4), (5, ptr b5), (8, .one (.sl .sh ((newP l).map prL))), (9, .one (.sl .sh ((doM (newP l) x).map prL))), (10, .one (iv (i : Nat))), (11, .one (bv true))]) rfl ?_ ?_); rotate_left) | refine LOps.nil ?_ | refine andThen_normal ?_ | refine andThen_exit ?_ | refine andThen_ret ?_ | refine inBlock_normal ?_ | refine inBlock_ret ?_ | refine inBlock_here ?_ | refine inBlock_out rfl ?_ | refine LWp.seq ?_ | refine LWp.region ?_ | refine LWp.block ?_ | refine LWp.exit ?_ | refine LWp.ret ?_ | refine LWp.skip ?_ | refine LOps.valA ?_ | refine LOps.outA ?_ | refine LOps.whenA ?_ | refine LOps.pickA ?_ | refine LOps.storeA ?_)
      rotate_left
      · repeat (first | refine LOps.nil ?_ | refine andThen_normal ?_ | refine andThen_exit ?_ | refine andThen_ret ?_ | refine inBlock_normal ?_ | refine inBlock_ret ?_ | refine inBlock_here ?_ | refine inBlock_out rfl ?_ | refine LWp.seq ?_ | refine LWp.region ?_ | refine LWp.block ?_ | refine LWp.exit ?_ | refine LWp.ret ?_ | refine LWp.skip ?_ | refine LOps.valA ?_ | refine LOps.outA ?_ | refine LOps.whenA ?_ | refine LOps.pickA ?_ | refine LOps.storeA ?_)
        refine LWp.loop (fun m T S' => S' = Sa ∧ ∃ (T' : Nat → TV) (k : Nat), k ≤ (doM (newP l) x).length ∧ m = (doM (newP l) x).length - k ∧ T = over T' [(0, .one (.sl .sh (l.map prL))), (4, ptr b4), (5, ptr b5), (8, .one (.sl .sh ((newP l).map prL))), (9, .one (.sl .sh ((doM (newP l) x).map prL))), (10, .one (iv (i : Nat))), (11, .one (bv (((doM (newP l) x).take k).any fun q => eqPr q (newP l)[i]))), (12, .one (iv (k : Nat)))]) (doM (newP l) x).length ?_ ?_
        · exact ⟨rfl, _, 0, by omega, by omega, holds.over ⟨rfl, rfl, rfl, rfl, rfl, rfl, rfl, rfl, trivial⟩⟩
        rintro m T Sb ⟨hSb, T', k, hk, rfl, rfl⟩
        subst hSb
        repeat (first | refine LOps.nil ?_ | refine andThen_normal ?_ | refine andThen_exit ?_ | refine andThen_ret ?_ | refine inBlock_normal ?_ | refine inBlock_ret ?_ | refine inBlock_here ?_ | refine inBlock_out rfl ?_ | refine LWp.seq ?_ | refine LWp.region ?_ | refine LWp.block ?_ | refine LWp.exit ?_ | refine LWp.ret ?_ | refine LWp.skip ?_ | refine LOps.valA ?_ | refine LOps.outA ?_ | refine LOps.whenA ?_ | refine LOps.pickA ?_ | refine LOps.storeA ?_)
        refine LWp.cond rfl (fun h2 => ?_) (fun h2 => ?_)
        · have hlk : k < (doM (newP l) x).length := by simp at h2; omega
          repeat (first | refine LOps.nil ?_ | refine andThen_normal ?_ | refine andThen_exit ?_ | refine andThen_ret ?_ | refine inBlock_normal ?_ | refine inBlock_ret ?_ | refine inBlock_here ?_ | refine inBlock_out rfl ?_ | refine LWp.seq ?_ | refine LWp.region ?_ | refine LWp.block ?_ | refine LWp.exit ?_ | refine LWp.ret ?_ | refine LWp.skip ?_ | refine LOps.valA ?_ | refine LOps.outA ?_ | refine LOps.whenA ?_ | refine LOps.pickA ?_ | refine LOps.storeA ?_)
          refine LWp.drawL [0, 1, 2, 3, 4, 5, 6, 7, 8, 9, 10, 11, 12] (by rw [hP]; rfl) rfl ?_
          repeat (first | refine LRl.nil ?_ | refine LRl.valA ?_ | refine LRl.outA ?_ | refine LRl.whenA ?_ | refine LRl.pickA ?_)
          repeat (first | refine LOps.nil ?_ | refine andThen_normal ?_ | refine andThen_exit ?_ | refine andThen_ret ?_ | refine inBlock_normal ?_ | refine inBlock_ret ?_ | refine inBlock_here ?_ | refine inBlock_out rfl ?_ | refine LWp.seq ?_ | refine LWp.region ?_ | refine LWp.block ?_ | refine LWp.exit ?_ | refine LWp.ret ?_ | refine LWp.skip ?_ | refine LOps.valA ?_ | refine LOps.outA ?_ | refine LOps.whenA ?_ | refine LOps.pickA ?_ | refine LOps.storeA ?_)
          refine ⟨(doM (newP l) x).length - (k + 1), by omega, rfl, _, k + 1, by omega, rfl, holds.over ⟨rfl, rfl, rfl, rfl, rfl, rfl, ?_, rfl, trivial⟩⟩
          rw [any_take hlk]; rfl
        · have hge : k = (doM (newP l) x).length := by simp at h2; omega
          subst hge
          rw [List.take_length, any_eqPr hmem]
          repeat (first | refine LOps.nil ?_ | refine andThen_normal ?_ | refine andThen_exit ?_ | refine andThen_ret ?_ | refine inBlock_normal ?_ | refine inBlock_ret ?_ | refine inBlock_here ?_ | refine inBlock_out rfl ?_ | refine LWp.seq ?_ | refine LWp.region ?_ | refine LWp.block ?_ | refine LWp.exit ?_ | refine LWp.ret ?_ | refine LWp.skip ?_ | refine LOps.valA ?_ | refine LOps.outA ?_ | refine LOps.whenA ?_ | refine LOps.pickA ?_ | refine LOps.storeA ?_)
          exact ⟨rfl, _, holds.over ⟨rfl, rfl, rfl, rfl, rfl, rfl, rfl, trivial⟩⟩
      rintro _ Sc ⟨hSc, T2, rfl⟩
      subst hSc
      repeat (first | refine LWp.condF rfl ?_ | refine LOps.nil ?_ | refine andThen_normal ?_ | refine andThen_exit ?_ | refine andThen_ret ?_ | refine inBlock_normal ?_ | refine inBlock_ret ?_ | refine inBlock_here ?_ | refine inBlock_out rfl ?_ | refine LWp.seq ?_ | refine LWp.region ?_ | refine LWp.block ?_ | refine LWp.exit ?_ | refine LWp.ret ?_ | refine LWp.skip ?_ | refine LOps.valA ?_ | refine LOps.outA ?_ | refine LOps.whenA ?_ | refine LOps.pickA ?_ | refine LOps.storeA ?_)
      exact ⟨(newP l).length - (i + 1), by omega, rfl, _, i + 1, by omega, rfl, holds.over ⟨rfl, rfl, rfl, rfl, rfl, rfl, trivial⟩⟩
    · repeat (first | refine LOps.nil ?_ | refine andThen_normal ?_ | refine andThen_exit ?_ | refine andThen_ret ?_ | refine inBlock_normal ?_ | refine inBlock_ret ?_ | refine inBlock_here ?_ | refine inBlock_out rfl ?_ | refine LWp.seq ?_ | refine LWp.region ?_ | refine LWp.block ?_ | refine LWp.exit ?_ | refine LWp.ret ?_ | refine LWp.skip ?_ | refine LOps.valA ?_ | refine LOps.outA ?_ | refine LOps.whenA ?_ | refine LOps.pickA ?_ | refine LOps.storeA ?_)
      exact ⟨rfl, _, holds.over ⟨rfl, rfl, rfl, rfl, rfl, trivial⟩⟩
  rintro _ S8 ⟨hS8, T8, rfl⟩
  subst hS8
  repeat (first | (refine LWp.seq (LWp.cut 18 (fun T' S' => S' = S8 ∧ ∃ (T'' : Nat → TV), T' = over T'' [(0, .one (.sl .sh (l.map prL))), (4, ptr b4), (5, ptr b5)]) rfl ?_ ?_); rotate_left) | refine LOps.nil ?_ | refine andThen_normal ?_ | refine andThen_exit ?_ | refine andThen_ret ?_ | refine inBlock_normal ?_ | refine inBlock_ret ?_ | refine inBlock_here ?_ | refine inBlock_out rfl ?_ | refine LWp.seq ?_ | refine LWp.region ?_ | refine LWp.block ?_ | refine LWp.exit ?_ | refine LWp.ret ?_ | refine LWp.skip ?_ | refine LOps.valA ?_ | refine LOps.outA ?_ | refine LOps.whenA ?_ | refine LOps.pickA ?_ | refine LOps.storeA ?_)
  rotate_left
  · have hwl : ((doM (newP l) x).map prL).length = (doM (newP l) x).length := List.length_map ..
    have hnw : ((newP l).map prL).length = (newP l).length := List.length_map ..
    repeat (first | refine LOps.nil ?_ | refine andThen_normal ?_ | refine andThen_exit ?_ | refine andThen_ret ?_ | refine inBlock_normal ?_ | refine inBlock_ret ?_ | refine inBlock_here ?_ | refine inBlock_out rfl ?_ | refine LWp.seq ?_ | refine LWp.region ?_ | refine LWp.block ?_ | refine LWp.exit ?_ | refine LWp.ret ?_ | refine LWp.skip ?_ | refine LOps.valA ?_ | refine LOps.outA ?_ | refine LOps.whenA ?_ | refine LOps.pickA ?_ | refine LOps.storeA ?_)
    refine LWp.loop (fun m T S' => S' = S8 ∧ ∃ (T' : Nat → TV) (i : Nat), i ≤ (doM (newP l) x).length ∧ m = (doM (newP l) x).length - i ∧ T = over T' [(0, .one (.sl .sh (l.map prL))), (4, ptr b4), (5, ptr b5), (8, .one (.sl .sh ((newP l).map prL))), (9, .one (.sl .sh ((doM (newP l) x).map prL))), (13, .one (iv (i : Nat)))]) (doM (newP l) x).length ?_ ?_
    · exact ⟨rfl, _, 0, by omega, by omega, holds.over ⟨rfl, rfl, rfl, rfl, rfl, rfl, trivial⟩⟩
    rintro m T Sa ⟨hSa, T', i, hi, rfl, rfl⟩
    subst hSa
    repeat (first | refine LOps.nil ?_ | refine andThen_normal ?_ | refine andThen_exit ?_ | refine andThen_ret ?_ | refine inBlock_normal ?_ | refine inBlock_ret ?_ | refine inBlock_here ?_ | refine inBlock_out rfl ?_ | refine LWp.seq ?_ | refine LWp.region ?_ | refine LWp.block ?_ | refine LWp.exit ?_ | refine LWp.ret ?_ | refine LWp.skip ?_ | refine LOps.valA ?_ | refine LOps.outA ?_ | refine LOps.whenA ?_ | refine LOps.pickA ?_ | refine LOps.storeA ?_)
    refine LWp.cond rfl (fun h => ?_) (fun h => ?_)
    · have hlt : i < (doM (newP l) x).length := by simp at h; omega
      have cn := names_F hP x (by omega) (doM (newP l) x)[i].key
      repeat (first | refine LOps.nil ?_ | refine andThen_normal ?_ | refine andThen_exit ?_ | refine andThen_ret ?_ | refine inBlock_normal ?_ | refine inBlock_ret ?_ | refine inBlock_here ?_ | refine inBlock_out rfl ?_ | refine LWp.seq ?_ | refine LWp.region ?_ | refine LWp.block ?_ | refine LWp.exit ?_ | refine LWp.ret ?_ | refine LWp.skip ?_ | refine LOps.valA ?_ | refine LOps.outA ?_ | refine LOps.whenA ?_ | refine LOps.pickA ?_ | refine LOps.storeA ?_)
      refine LWp.drawL [0, 1, 2, 3, 4, 5, 6] (by rw [hP]; rfl) rfl ?_
      repeat (first | refine LRl.val (fun _ hS => LVal.load hD rfl rfl (hS.box _ _ q4 id) rfl rfl) rfl rfl rfl ?_ | refine LRl.valC (fun _ => (LVal.call rfl rfl (by rw [hP]; exact Try.func23) rfl (by decide) (cn))) ?_ | refine LRl.whenC (fun _ => (LVal.call rfl rfl (by rw [hP]; exact Try.func23) rfl (by decide) (cn))) ?_ | refine LRl.nil ?_ | refine LRl.valA ?_ | refine LRl.outA ?_ | refine LRl.whenA ?_ | refine LRl.pickA ?_)
      repeat (first | refine LOps.nil ?_ | refine andThen_normal ?_ | refine andThen_exit ?_ | refine andThen_ret ?_ | refine inBlock_normal ?_ | refine inBlock_ret ?_ | refine inBlock_here ?_ | refine inBlock_out rfl ?_ | refine LWp.seq ?_ | refine LWp.region ?_ | refine LWp.block ?_ | refine LWp.exit ?_ | refine LWp.ret ?_ | refine LWp.skip ?_ | refine LOps.valA ?_ | refine LOps.outA ?_ | refine LOps.whenA ?_ | refine LOps.pickA ?_ | refine LOps.storeA ?_)
      refine LWp.cond rfl (fun hn => ?_) (fun hn => ?_)
      · repeat (first | refine LOps.nil ?_ | refine andThen_normal ?_ | refine andThen_exit ?_ | refine andThen_ret ?_ | refine inBlock_normal ?_ | refine inBlock_ret ?_ | refine inBlock_here ?_ | refine inBlock_out rfl ?_ | refine LWp.seq ?_ | refine LWp.region ?_ | refine LWp.block ?_ | refine LWp.exit ?_ | refine LWp.ret ?_ | refine LWp.skip ?_ | refine LOps.valA ?_ | refine LOps.outA ?_ | refine LOps.whenA ?_ | refine LOps.pickA ?_ | refine LOps.storeA ?_)
        exact ⟨(doM (newP l) x).length - (i + 1), by omega, rfl, _, i + 1, by omega, rfl, holds.over ⟨rfl, rfl, rfl, rfl, rfl, rfl, trivial⟩⟩
      have hn : namesS x (doM (newP l) x)[i].key = false := hn
      have hmem : (doM (newP l) x)[i] ∈ newP l := (mem_doM_out hs x hn).1 (List.getElem_mem hlt)
      repeat (first | (refine LWp.seq (LWp.cut 23 (fun T' S' => S' = Sa ∧ ∃ (T'' : Nat → TV), T' = over T'' [(0, .one (.sl .sh (l.map prL))), (4, ptr b4), (5, ptr b5), (8, .one (.sl .sh ((newP l).map prL))), (9, .one (.sl .sh ((doM (newP l) x).map prL))), (13, .one (iv (i : Nat))), (14, .one (bv true))]) rfl ?_ ?_); rotate_left) | refine LOps.nil ?_ | refine andThen_normal ?_ | refine andThen_exit ?_ | refine andThen_ret ?_ | refine inBlock_normal ?_ | refine inBlock_ret ?_ | refine inBlock_here ?_ | refine inBlock_out rfl ?_ | refine LWp.seq ?_ | refine LWp.region ?_ | refine LWp.block ?_ | refine LWp.exit ?_ | refine LWp.ret ?_ | refine LWp.skip ?_ | refine LOps.valA ?_ | refine LOps.outA ?_ | refine LOps.whenA ?_ | refine LOps.pickA ?_ | refine LOps.storeA ?_)
      rotate_left
      · repeat (first | refine LOps.nil ?_ | refine andThen_normal ?_ | refine andThen_exit ?_ | refine andThen_ret ?_ | refine inBlock_normal ?_ | refine inBlock_ret ?_ | refine inBlock_here ?_ | refine inBlock_out rfl ?_ | refine LWp.seq ?_ | refine LWp.region ?_ | refine LWp.block ?_ | refine LWp.exit ?_ | refine LWp.ret ?_ | refine LWp.skip ?_ | refine LOps.valA ?_ | refine LOps.outA ?_ | refine LOps.whenA ?_ | refine LOps.pickA ?_ | refine LOps.storeA ?_)
        refine LWp.loop (fun m T S' => S' = Sa ∧ ∃ (T' : Nat → TV) (k : Nat), k ≤ (newP l).length ∧ m = (newP l).length - k ∧ T = over T' [(0, .one (.sl .sh (l.map prL))), (4, ptr b4), (5, ptr b5), (8, .one (.sl .sh ((newP l).map prL))), (9, .one (.sl .sh ((doM (newP l) x).map prL))), (13, .one (iv (i : Nat))), (14, .one (bv (((newP l).take k).any fun q => eqPr q (doM (newP l) x)[i]))), (15, .one (iv (k : Nat)))]) (newP l).length ?_ ?_
        · exact ⟨rfl, _, 0, by omega, by omega, holds.over ⟨rfl, rfl, rfl, rfl, rfl, rfl, rfl, rfl, trivial⟩⟩
        rintro m T Sb ⟨hSb, T', k, hk, rfl, rfl⟩
        subst hSb
        repeat (first | refine LOps.nil ?_ | refine andThen_normal ?_ | refine andThen_exit ?_ | refine andThen_ret ?_ | refine inBlock_normal ?_ | refine inBlock_ret ?_ | refine inBlock_here ?_ | refine inBlock_out rfl ?_ | refine LWp.seq ?_ | refine LWp.region ?_ | refine LWp.block ?_ | refine LWp.exit ?_ | refine LWp.ret ?_ | refine LWp.skip ?_ | refine LOps.valA ?_ | refine LOps.outA ?_ | refine LOps.whenA ?_ | refine LOps.pickA ?_ | refine LOps.storeA ?_)
        refine LWp.cond rfl (fun h2 => ?_) (fun h2 => ?_)
        · have hlk : k < (newP l).length := by simp at h2; omega
          repeat (first | refine LOps.nil ?_ | refine andThen_normal ?_ | refine andThen_exit ?_ | refine andThen_ret ?_ | refine inBlock_normal ?_ | refine inBlock_ret ?_ | refine inBlock_here ?_ | refine inBlock_out rfl ?_ | refine LWp.seq ?_ | refine LWp.region ?_ | refine LWp.block ?_ | refine LWp.exit ?_ | refine LWp.ret ?_ | refine LWp.skip ?_ | refine LOps.valA ?_ | refine LOps.outA ?_ | refine LOps.whenA ?_ | refine LOps.pickA ?_ | refine LOps.storeA ?_)
          refine LWp.drawL [0, 1, 2, 3, 4, 5, 6, 7, 8, 9, 10, 11, 12] (by rw [hP]; rfl) rfl ?_
          repeat (first | refine LRl.nil ?_ | refine LRl.valA ?_ | refine LRl.outA ?_ | refine LRl.whenA ?_ | refine LRl.pickA ?_)
          repeat (first | refine LOps.nil ?_ | refine andThen_normal ?_ | refine andThen_exit ?_ | refine andThen_ret ?_ | refine inBlock_normal ?_ | refine inBlock_ret ?_ | refine inBlock_here ?_ | refine inBlock_out rfl ?_ | refine LWp.seq ?_ | refine LWp.region ?_ | refine LWp.block ?_ | refine LWp.exit ?_ | refine LWp.ret ?_ | refine LWp.skip ?_ | refine LOps.valA ?_ | refine LOps.outA ?_ | refine LOps.whenA ?_ | refine LOps.pickA ?_ | refine LOps.storeA ?_)
          refine ⟨(newP l).length - (k + 1), by omega, rfl, _, k + 1, by omega, rfl, holds.over ⟨rfl, rfl, rfl, rfl, rfl, rfl, ?_, rfl, trivial⟩⟩
          rw [any_take hlk]; rfl
        · have hge : k = (newP l).length := by simp at h2; omega
          subst hge
          rw [List.take_length, any_eqPr hmem]
          repeat (first | refine LOps.nil ?_ | refine andThen_normal ?_ | refine andThen_exit ?_ | refine andThen_ret ?_ | refine inBlock_normal ?_ | refine inBlock_ret ?_ | refine inBlock_here ?_ | refine inBlock_out rfl ?_ | refine LWp.seq ?_ | refine LWp.region ?_ | refine LWp.block ?_ | refine LWp.exit ?_ | refine LWp.ret ?_ | refine LWp.skip ?_ | refine LOps.valA ?_ | refine LOps.outA ?_ | refine LOps.whenA ?_ | refine LOps.pickA ?_ | refine LOps.storeA ?_)
          exact ⟨rfl, _, holds.over ⟨rfl, rfl, rfl, rfl, rfl, rfl, rfl, trivial⟩⟩
      rintro _ Sc ⟨hSc, T2, rfl⟩
      subst hSc
      repeat (first | refine LWp.condF rfl ?_ | refine LOps.nil ?_ | refine andThen_normal ?_ | refine andThen_exit ?_ | refine andThen_ret ?_ | refine inBlock_normal ?_ | refine inBlock_ret ?_ | refine inBlock_here ?_ | refine inBlock_out rfl ?_ | refine LWp.seq ?_ | refine LWp.region ?_ | refine LWp.block ?_ | refine LWp.exit ?_ | refine LWp.ret ?_ | refine LWp.skip ?_ | refine LOps.valA ?_ | refine LOps.outA ?_ | refine LOps.whenA ?_ | refine LOps.pickA ?_ | refine LOps.storeA ?_)
      exact ⟨(doM (newP l) x).length - (i + 1), by omega, rfl, _, i + 1, by omega, rfl, holds.over ⟨rfl, rfl, rfl, rfl, rfl, rfl, trivial⟩⟩
    · repeat (first | refine LOps.nil ?_ | refine andThen_normal ?_ | refine andThen_exit ?_ | refine andThen_ret ?_ | refine inBlock_normal ?_ | refine inBlock_ret ?_ | refine inBlock_here ?_ | refine inBlock_out rfl ?_ | refine LWp.seq ?_ | refine LWp.region ?_ | refine LWp.block ?_ | refine LWp.exit ?_ | refine LWp.ret ?_ | refine LWp.skip ?_ | refine LOps.valA ?_ | refine LOps.outA ?_ | refine LOps.whenA ?_ | refine LOps.pickA ?_ | refine LOps.storeA ?_)
      exact ⟨rfl, _, holds.over ⟨rfl, rfl, rfl, trivial⟩⟩
  rintro _ S9 ⟨hS9, T9, rfl⟩
  subst hS9
  have cs := shares_F hP x y (by omega) (by omega)
  repeat (first | refine LOps.valH (LVal.load hD rfl rfl q4 rfl rfl) ?_ | refine LOps.valH (LVal.load hD rfl rfl q5 rfl rfl) ?_ | refine LOps.nil ?_ | refine andThen_normal ?_ | refine andThen_exit ?_ | refine andThen_ret ?_ | refine inBlock_normal ?_ | refine inBlock_ret ?_ | refine inBlock_here ?_ | refine inBlock_out rfl ?_ | refine LWp.seq ?_ | refine LWp.region ?_ | refine LWp.block ?_ | refine LWp.exit ?_ | refine LWp.ret ?_ | refine LWp.skip ?_ | refine LOps.val (LVal.call rfl rfl (by rw [hP]; exact Try.func24) rfl (by decide) (cs)) rfl rfl rfl ?_ | refine LOps.whenC (LVal.call rfl rfl (by rw [hP]; exact Try.func24) rfl (by decide) (cs)) ?_ | refine LOps.valA ?_ | refine LOps.outA ?_ | refine LOps.whenA ?_ | refine LOps.pickA ?_ | refine LOps.storeA ?_)
  refine LWp.cond rfl (fun h => ?_) (fun h => ?_)
  · repeat (first | refine LOps.nil ?_ | refine andThen_normal ?_ | refine andThen_exit ?_ | refine andThen_ret ?_ | refine inBlock_normal ?_ | refine inBlock_ret ?_ | refine inBlock_here ?_ | refine inBlock_out rfl ?_ | refine LWp.seq ?_ | refine LWp.region ?_ | refine LWp.block ?_ | refine LWp.exit ?_ | refine LWp.ret ?_ | refine LWp.skip ?_ | refine LOps.val (LVal.call rfl rfl (by rw [hP]; exact Try.func10) rfl (by decide) (cw)) rfl rfl rfl ?_ | refine LOps.whenC (LVal.call rfl rfl (by rw [hP]; exact Try.func10) rfl (by decide) (cw)) ?_ | refine LOps.valA ?_ | refine LOps.outA ?_ | refine LOps.whenA ?_ | refine LOps.pickA ?_ | refine LOps.storeA ?_)
    exact ⟨_, LRes.one rfl, rfl⟩
  have h : ((sharesS x y || (x.kind == 5)) || (y.kind == 5)) = false := h
  rw [Bool.or_eq_false_iff, Bool.or_eq_false_iff, beq_eq_false_iff_ne, beq_eq_false_iff_ne] at h
  obtain ⟨⟨hsh, hx5⟩, hy5⟩ := h
  have hap := shares_no hsh
  have e1 : doA (doM (newP l) x) y = doA (newP l) y := doA_swap hs x y hy5 hap
  have e2 : doA (doM (newP l) y) x = doA (newP l) x := doA_swap hs y x hx5 fun k h1 h2 => hap k h2 h1
  have e3 : doM (doM (newP l) y) x = doM (doM (newP l) x) y := (doM_swap hs x y hap).symm
  clear q4 q5 cs m
  repeat (first | refine LOps.nil ?_ | refine andThen_normal ?_ | refine andThen_exit ?_ | refine andThen_ret ?_ | refine inBlock_normal ?_ | refine inBlock_ret ?_ | refine inBlock_here ?_ | refine inBlock_out rfl ?_ | refine LWp.seq ?_ | refine LWp.region ?_ | refine LWp.block ?_ | refine LWp.exit ?_ | refine LWp.ret ?_ | refine LWp.skip ?_ | refine LOps.valA ?_ | refine LOps.outA ?_ | refine LOps.whenA ?_ | refine LOps.pickA ?_ | refine LOps.storeA ?_)
  refine LOps.do (LDo.callX (new_L hP .sh l (by omega) _) (by rw [hP]; exact Try.func11)) rfl rfl rfl ?_
  rintro _ S10 ⟨bp, P, rfl, mp, h1, h2, h3⟩
  have np := NewO.of_new hle7 h1 h2 h3
  clear h1 h2 h3
  repeat (first | refine LOps.nil ?_ | refine andThen_normal ?_ | refine andThen_exit ?_ | refine andThen_ret ?_ | refine inBlock_normal ?_ | refine inBlock_ret ?_ | refine inBlock_here ?_ | refine inBlock_out rfl ?_ | refine LWp.seq ?_ | refine LWp.region ?_ | refine LWp.block ?_ | refine LWp.exit ?_ | refine LWp.ret ?_ | refine LWp.skip ?_ | refine LOps.valA ?_ | refine LOps.outA ?_ | refine LOps.whenA ?_ | refine LOps.pickA ?_ | refine LOps.storeA ?_)
  refine LOps.do (LDo.callX (new_L hP .sh l (by omega) S10) (by rw [hP]; exact Try.func11)) rfl rfl rfl ?_
  rintro _ S11 ⟨bq, Q, rfl, mq, h1, h2, h3⟩
  have nq := NewO.of_new np.le h1 h2 h3
  have tw := Two.of_new (S' := S11) mp h2 h3
  replace mp := mp.le h1
  replace np := np.le2 h1
  clear h1 h2 h3 hle7 nw
  obtain ⟨S0, hS0⟩ : ∃ S0, S0 = S5 := ⟨_, rfl⟩
  rw [← hS0] at np nq k4 k5
  clear hS0
  have q := np.le.box _ _ k4
  repeat (first | refine LOps.valH (LVal.load hD rfl rfl q rfl rfl) ?_ | refine LOps.nil ?_ | refine andThen_normal ?_ | refine andThen_exit ?_ | refine andThen_ret ?_ | refine inBlock_normal ?_ | refine inBlock_ret ?_ | refine inBlock_here ?_ | refine inBlock_out rfl ?_ | refine LWp.seq ?_ | refine LWp.region ?_ | refine LWp.block ?_ | refine LWp.exit ?_ | refine LWp.ret ?_ | refine LWp.skip ?_ | refine LOps.valA ?_ | refine LOps.outA ?_ | refine LOps.whenA ?_ | refine LOps.pickA ?_ | refine LOps.storeA ?_)
  refine LOps.do (LDo.callF (do_L hP (newP l) (by omega) x bp P _ mp) (by rw [hP]; exact Try.func16)) rfl rfl rfl ?_
  rintro _ S12 ⟨rfl, P, m3, mv⟩
  obtain ⟨m4, tw2⟩ := Two.mv tw mq mv
  replace np := np.mv mv
  replace nq := nq.other np.le
  have tw := tw2
  clear mv mp mq q tw2
  have mp := m3
  have mq := m4
  clear m3 m4
  refine LOps.do (LDo.alloc hD rfl rfl rfl) rfl rfl rfl ?_
  rintro _ _ ⟨b18, hb18, rfl, rfl⟩
  refine LOps.storeA (b := b18) (off := 0) (cs := ansL noAns) (l := ansL (doA (newP l) x)) ?_
  obtain ⟨S1, h01, k18, np1, mp1, nq1, mq1⟩ := np.put2 mp nq mq hb18 (ansL noAns) (ansL (doA (newP l) x))
  refine LOps.gen (fun S' => NewO S1 S' bp P ∧ OM S' bp P _ ∧ NewO S1 S' bq Q ∧ OM S' bq Q _) ⟨np1, mp1, nq1, mq1⟩ ?_
  replace k4 := h01.box _ _ k4
  replace k5 := h01.box _ _ k5
  clear np mp nq mq np1 mp1 nq1 mq1 h01 hb18
  rintro S13 ⟨np, mp, nq, mq⟩
  have q := np.le.box _ _ k5
  repeat (first | refine LOps.valH (LVal.load hD rfl rfl q rfl rfl) ?_ | refine LOps.nil ?_ | refine andThen_normal ?_ | refine andThen_exit ?_ | refine andThen_ret ?_ | refine inBlock_normal ?_ | refine inBlock_ret ?_ | refine inBlock_here ?_ | refine inBlock_out rfl ?_ | refine LWp.seq ?_ | refine LWp.region ?_ | refine LWp.block ?_ | refine LWp.exit ?_ | refine LWp.ret ?_ | refine LWp.skip ?_ | refine LOps.valA ?_ | refine LOps.outA ?_ | refine LOps.whenA ?_ | refine LOps.pickA ?_ | refine LOps.storeA ?_)
  refine LOps.do (LDo.callF (do_L hP (doM (newP l) x) (by omega) y bp P _ mp) (by rw [hP]; exact Try.func16)) rfl rfl rfl ?_
  rintro _ S12 ⟨rfl, P, m3, mv⟩
  obtain ⟨m4, tw2⟩ := Two.mv tw mq mv
  replace np := np.mv mv
  replace nq := nq.other np.le
  have tw := tw2
  clear mv mp mq q tw2
  have mp := m3
  have mq := m4
  clear m3 m4
  refine LOps.do (LDo.alloc hD rfl rfl rfl) rfl rfl rfl ?_
  rintro _ _ ⟨b19, hb19, rfl, rfl⟩
  refine LOps.storeA (b := b19) (off := 0) (cs := ansL noAns) (l := ansL (doA (doM (newP l) x) y)) ?_
  obtain ⟨S1, h01, k19, np1, mp1, nq1, mq1⟩ := np.put2 mp nq mq hb19 (ansL noAns) (ansL (doA (doM (newP l) x) y))
  refine LOps.gen (fun S' => NewO S1 S' bp P ∧ OM S' bp P _ ∧ NewO S1 S' bq Q ∧ OM S' bq Q _) ⟨np1, mp1, nq1, mq1⟩ ?_
  replace k4 := h01.box _ _ k4
  replace k5 := h01.box _ _ k5
  replace k18 := h01.box _ _ k18
  clear np mp nq mq np1 mp1 nq1 mq1 h01 hb19
  rintro S13 ⟨np, mp, nq, mq⟩
  have q := np.le.box _ _ k5
  repeat (first | refine LOps.valH (LVal.load hD rfl rfl q rfl rfl) ?_ | refine LOps.nil ?_ | refine andThen_normal ?_ | refine andThen_exit ?_ | refine andThen_ret ?_ | refine inBlock_normal ?_ | refine inBlock_ret ?_ | refine inBlock_here ?_ | refine inBlock_out rfl ?_ | refine LWp.seq ?_ | refine LWp.region ?_ | refine LWp.block ?_ | refine LWp.exit ?_ | refine LWp.ret ?_ | refine LWp.skip ?_ | refine LOps.valA ?_ | refine LOps.outA ?_ | refine LOps.whenA ?_ | refine LOps.pickA ?_ | refine LOps.storeA ?_)
  refine LOps.do (LDo.callF (do_L hP (newP l) (by omega) y bq Q _ mq) (by rw [hP]; exact Try.func16)) rfl rfl rfl ?_
  rintro _ S12 ⟨rfl, Q, m3, mv⟩
  obtain ⟨m4, tw2⟩ := Two.mv tw.symm mp mv
  replace nq := nq.mv mv
  replace np := np.other nq.le
  have tw := tw2.symm
  clear mv mp mq q tw2
  have mq := m3
  have mp := m4
  clear m3 m4
  refine LOps.do (LDo.alloc hD rfl rfl rfl) rfl rfl rfl ?_
  rintro _ _ ⟨b20, hb20, rfl, rfl⟩
  refine LOps.storeA (b := b20) (off := 0) (cs := ansL noAns) (l := ansL (doA (newP l) y)) ?_
  obtain ⟨S1, h01, k20, np1, mp1, nq1, mq1⟩ := np.put2 mp nq mq hb20 (ansL noAns) (ansL (doA (newP l) y))
  refine LOps.gen (fun S' => NewO S1 S' bp P ∧ OM S' bp P _ ∧ NewO S1 S' bq Q ∧ OM S' bq Q _) ⟨np1, mp1, nq1, mq1⟩ ?_
  replace k4 := h01.box _ _ k4
  replace k5 := h01.box _ _ k5
  replace k18 := h01.box _ _ k18
  replace k19 := h01.box _ _ k19
  clear np mp nq mq np1 mp1 nq1 mq1 h01 hb20
  rintro S13 ⟨np, mp, nq, mq⟩
  have q := np.le.box _ _ k4
  repeat (first | refine LOps.valH (LVal.load hD rfl rfl q rfl rfl) ?_ | refine LOps.nil ?_ | refine andThen_normal ?_ | refine andThen_exit ?_ | refine andThen_ret ?_ | refine inBlock_normal ?_ | refine inBlock_ret ?_ | refine inBlock_here ?_ | refine inBlock_out rfl ?_ | refine LWp.seq ?_ | refine LWp.region ?_ | refine LWp.block ?_ | refine LWp.exit ?_ | refine LWp.ret ?_ | refine LWp.skip ?_ | refine LOps.valA ?_ | refine LOps.outA ?_ | refine LOps.whenA ?_ | refine LOps.pickA ?_ | refine LOps.storeA ?_)
  refine LOps.do (LDo.callF (do_L hP (doM (newP l) y) (by omega) x bq Q _ mq) (by rw [hP]; exact Try.func16)) rfl rfl rfl ?_
  rintro _ S12 ⟨rfl, Q, m3, mv⟩
  obtain ⟨m4, tw2⟩ := Two.mv tw.symm mp mv
  replace nq := nq.mv mv
  replace np := np.other nq.le
  have tw := tw2.symm
  clear mv mp mq q tw2
  have mq := m3
  have mp := m4
  clear m3 m4
  refine LOps.do (LDo.alloc hD rfl rfl rfl) rfl rfl rfl ?_
  rintro _ _ ⟨b21, hb21, rfl, rfl⟩
  refine LOps.storeA (b := b21) (off := 0) (cs := ansL noAns) (l := ansL (doA (doM (newP l) y) x)) ?_
  obtain ⟨S1, h01, k21, np1, mp1, nq1, mq1⟩ := np.put2 mp nq mq hb21 (ansL noAns) (ansL (doA (doM (newP l) y) x))
  refine LOps.gen (fun S' => NewO S1 S' bp P ∧ OM S' bp P _ ∧ NewO S1 S' bq Q ∧ OM S' bq Q _) ⟨np1, mp1, nq1, mq1⟩ ?_
  replace k4 := h01.box _ _ k4
  replace k5 := h01.box _ _ k5
  replace k18 := h01.box _ _ k18
  replace k19 := h01.box _ _ k19
  replace k20 := h01.box _ _ k20
  clear np mp nq mq np1 mp1 nq1 mq1 h01 hb21
  rintro S13 ⟨np, mp, nq, mq⟩
  rw [e1] at k19
  rw [e2] at k21
  rw [e3] at mq
  generalize doA (newP l) x = A1 at k18 k21
  generalize doA (newP l) y = A2 at k19 k20
  have q18 := np.le.box _ _ k18
  have q19 := np.le.box _ _ k19
  have q20 := np.le.box _ _ k20
  have q21 := np.le.box _ _ k21
  obtain ⟨L, hL⟩ : ∃ L, L = doM (doM (newP l) x) y := ⟨_, rfl⟩
  rw [← hL] at mp mq hlxy
  have hLl : L.length ≤ 1000000 := by omega
  refine LOps.slots [(16, ptr bp), (17, ptr bq), (18, ptr b18), (19, ptr b19), (20, ptr b20), (21, ptr b21)] ⟨rfl, rfl, rfl, rfl, rfl, rfl, trivial⟩ fun T9 => ?_
  repeat (first | refine LOps.nil ?_ | refine andThen_normal ?_ | refine andThen_exit ?_ | refine andThen_ret ?_ | refine inBlock_normal ?_ | refine inBlock_ret ?_ | refine inBlock_here ?_ | refine inBlock_out rfl ?_ | refine LWp.seq ?_ | refine LWp.region ?_ | refine LWp.block ?_ | refine LWp.exit ?_ | refine LWp.ret ?_ | refine LWp.skip ?_ | refine LOps.valA ?_ | refine LOps.outA ?_ | refine LOps.whenA ?_ | refine LOps.pickA ?_ | refine LOps.storeA ?_)
  refine LOps.valH (LDo.toVal (LDo.callX (allV_L hP L hLl bp P S13 mp) (by rw [hP]; exact Try.func14))) ?_
  repeat (first | refine LOps.nil ?_ | refine andThen_normal ?_ | refine andThen_exit ?_ | refine andThen_ret ?_ | refine inBlock_normal ?_ | refine inBlock_ret ?_ | refine inBlock_here ?_ | refine inBlock_out rfl ?_ | refine LWp.seq ?_ | refine LWp.region ?_ | refine LWp.block ?_ | refine LWp.exit ?_ | refine LWp.ret ?_ | refine LWp.skip ?_ | refine LOps.valA ?_ | refine LOps.outA ?_ | refine LOps.whenA ?_ | refine LOps.pickA ?_ | refine LOps.storeA ?_)
  refine LOps.valH (LDo.toVal (LDo.callX (allV_L hP L hLl bq Q S13 mq) (by rw [hP]; exact Try.func14))) ?_
  refine LOps.valA ?_
  refine LOps.nil ?_
  refine andThen_normal ?_
  refine LWp.seq ?_
  refine LWp.seq ?_
  refine LWp.region ?_
  refine LOps.valH (LVal.load hD rfl rfl q18 rfl rfl) ?_
  refine LOps.valH (LVal.load hD rfl rfl q21 rfl rfl) ?_
  refine LOps.valH (LVal.to (LVal.neqAgg hD rfl rfl rfl rfl rfl ec rfl) (r' := .one (bv false)) (by exact congrArg (fun b => TV.one (bv b)) (ans_ne _))) ?_
  refine LOps.valW ?_
  refine LOps.valH (LVal.load hD rfl rfl q19 rfl rfl) ?_
  refine LOps.valH (LVal.load hD rfl rfl q20 rfl rfl) ?_
  refine LOps.valH (LVal.to (LVal.neqAgg hD rfl rfl rfl rfl rfl ec rfl) (r' := .one (bv false)) (by exact congrArg (fun b => TV.one (bv b)) (ans_ne _))) ?_
  refine LOps.valW ?_
  refine LOps.valW ?_
  refine LOps.valW ?_
  refine LOps.valW ?_
  refine LOps.valW ?_
  refine LOps.valW ?_
  refine LOps.valW ?_
  refine LOps.valW ?_
  refine LOps.nil ?_
  refine andThen_normal ?_
  refine LWp.condF rfl ?_
  refine LWp.slots [(22, .one (.sl .sh (L.map prL))), (23, .one (.sl .sh (L.map prL)))] ⟨rfl, rfl, trivial⟩ fun T10 => ?_
  repeat (first | refine LOps.nil ?_ | refine andThen_normal ?_ | refine andThen_exit ?_ | refine andThen_ret ?_ | refine inBlock_normal ?_ | refine inBlock_ret ?_ | refine inBlock_here ?_ | refine inBlock_out rfl ?_ | refine LWp.seq ?_ | refine LWp.region ?_ | refine LWp.block ?_ | refine LWp.exit ?_ | refine LWp.ret ?_ | refine LWp.skip ?_ | refine LOps.valA ?_ | refine LOps.outA ?_ | refine LOps.whenA ?_ | refine LOps.pickA ?_ | refine LOps.storeA ?_)
  have hml : (L.map prL).length = L.length := List.length_map ..
  refine LWp.loop (fun m T S' => S' = S13 ∧ ∃ (T' : Nat → TV) (i : Nat), i ≤ L.length ∧ m = L.length - i ∧ T = over T' [(22, .one (.sl .sh (L.map prL))), (23, .one (.sl .sh (L.map prL))), (24, .one (iv (i : Nat)))]) L.length ?_ ?_
  · exact ⟨rfl, _, 0, by omega, by omega, holds.over ⟨rfl, rfl, rfl, trivial⟩⟩
  rintro m T S' ⟨hS', T', i, hi, rfl, rfl⟩
  subst hS'
  repeat (first | refine LOps.nil ?_ | refine andThen_normal ?_ | refine andThen_exit ?_ | refine andThen_ret ?_ | refine inBlock_normal ?_ | refine inBlock_ret ?_ | refine inBlock_here ?_ | refine inBlock_out rfl ?_ | refine LWp.seq ?_ | refine LWp.region ?_ | refine LWp.block ?_ | refine LWp.exit ?_ | refine LWp.ret ?_ | refine LWp.skip ?_ | refine LOps.valA ?_ | refine LOps.outA ?_ | refine LOps.whenA ?_ | refine LOps.pickA ?_ | refine LOps.storeA ?_)
  refine LWp.cond rfl (fun h => ?_) (fun h => ?_)
  · have hlt : i < L.length := by simp at h; omega
    repeat (first | refine LOps.nil ?_ | refine andThen_normal ?_ | refine andThen_exit ?_ | refine andThen_ret ?_ | refine inBlock_normal ?_ | refine inBlock_ret ?_ | refine inBlock_here ?_ | refine inBlock_out rfl ?_ | refine LWp.seq ?_ | refine LWp.region ?_ | refine LWp.block ?_ | refine LWp.exit ?_ | refine LWp.ret ?_ | refine LWp.skip ?_ | refine LOps.valA ?_ | refine LOps.outA ?_ | refine LOps.whenA ?_ | refine LOps.pickA ?_ | refine LOps.storeA ?_)
    refine LWp.drawL [0, 1, 2, 3, 4, 5, 6, 7, 8] (by rw [hP]; rfl) rfl ?_
    repeat (first | refine LRl.nil ?_ | refine LRl.valA ?_ | refine LRl.outA ?_ | refine LRl.whenA ?_ | refine LRl.pickA ?_)
    repeat (first | refine LOps.nil ?_ | refine andThen_normal ?_ | refine andThen_exit ?_ | refine andThen_ret ?_ | refine inBlock_normal ?_ | refine inBlock_ret ?_ | refine inBlock_here ?_ | refine inBlock_out rfl ?_ | refine LWp.seq ?_ | refine LWp.region ?_ | refine LWp.block ?_ | refine LWp.exit ?_ | refine LWp.ret ?_ | refine LWp.skip ?_ | refine LOps.valA ?_ | refine LOps.outA ?_ | refine LOps.whenA ?_ | refine LOps.pickA ?_ | refine LOps.storeA ?_)
    refine LWp.cond rfl (fun h2 => ?_) (fun h2 => ?_)
    · have h2 : (!eqPr L[i] L[i]) = true := h2
      rw [eqPr_iff] at h2
      simp at h2
    · repeat (first | refine LOps.nil ?_ | refine andThen_normal ?_ | refine andThen_exit ?_ | refine andThen_ret ?_ | refine inBlock_normal ?_ | refine inBlock_ret ?_ | refine inBlock_here ?_ | refine inBlock_out rfl ?_ | refine LWp.seq ?_ | refine LWp.region ?_ | refine LWp.block ?_ | refine LWp.exit ?_ | refine LWp.ret ?_ | refine LWp.skip ?_ | refine LOps.valA ?_ | refine LOps.outA ?_ | refine LOps.whenA ?_ | refine LOps.pickA ?_ | refine LOps.storeA ?_)
      exact ⟨L.length - (i + 1), by omega, rfl, _, i + 1, by omega, rfl, holds.over ⟨rfl, rfl, rfl, trivial⟩⟩
  · repeat (first | refine LOps.nil ?_ | refine andThen_normal ?_ | refine andThen_exit ?_ | refine andThen_ret ?_ | refine inBlock_normal ?_ | refine inBlock_ret ?_ | refine inBlock_here ?_ | refine inBlock_out rfl ?_ | refine LWp.seq ?_ | refine LWp.region ?_ | refine LWp.block ?_ | refine LWp.exit ?_ | refine LWp.ret ?_ | refine LWp.skip ?_ | refine LOps.val (LVal.call rfl rfl (by rw [hP]; exact Try.func10) rfl (by decide) (cw)) rfl rfl rfl ?_ | refine LOps.whenC (LVal.call rfl rfl (by rw [hP]; exact Try.func10) rfl (by decide) (cw)) ?_ | refine LOps.valA ?_ | refine LOps.outA ?_ | refine LOps.whenA ?_ | refine LOps.pickA ?_ | refine LOps.storeA ?_)
    exact ⟨_, LRes.one rfl, rfl⟩
end Go.Proofs.Ytndcdmmmfplbbaa.LF

namespace Go.Proofs.Ytndcdmmmfplbbaa
open Go.RowKit LF
theorem omapApart_walk (W : World) (v0 : Value) (l0 : List LV) (y0 : Typed LF.D 22 l0) (g0 : RepT (G0 Try.prog W) W (allCells W) (argTV ti22 l0) v0) (v1 : Value) (l1 : List LV) (y1 : Typed LF.D 39 l1) (g1 : RepT (G0 Try.prog W) W (allCells W) (argTV ti39 l1) v1) (v2 : Value) (l2 : List LV) (y2 : Typed LF.D 39 l2) (g2 : RepT (G0 Try.prog W) W (allCells W) (argTV ti39 l2) v2) :
    Calls Try.prog 8 #[v0, v1, v2] W fun e W' => e = .returned (.bool true) ∧ Below W.heap.size W W' := by
  obtain ⟨l, rfl⟩ := typed_prs y0
  obtain ⟨x, rfl⟩ := typed_op y1
  obtain ⟨y, rfl⟩ := typed_op y2
  exact law_calls (fun G S h => apart_L h l x y S) (.cons (vs := [v1, v2]) g0 (.cons (vs := [v2]) g1 (.cons (vs := []) g2 .nil)))
end Go.Proofs.Ytndcdmmmfplbbaa
