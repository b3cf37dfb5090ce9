/- LinearIdle: the walk. -/
import Derived.Test.YtandbjhedkgldaaLLw
namespace Go.Proofs.Ytandbjhedkgldaa.LF
open Go.RowKit H
set_option linter.unusedVariables false
attribute [local irreducible] andThen inBlock LWp LOps LCalls

theorem kept_len (D : Int → Bool) (w : List Ev) : (kept D w).length ≤ w.length := List.length_filter_le _ _
theorem kept_take {D : Int → Bool} {l : List Ev} {j : Nat} (h : j < l.length) : kept D (l.take (j + 1)) = kept D (l.take j) ++ if D l[j].id then [] else [l[j]] := by
  rw [List.take_succ_eq_append_getElem h, kept_snoc]

set_option maxHeartbeats 8000000 in
theorem idle8_L {G : Ctx} (hP : G.P = Try.prog) (l : List Pr) (evs : List Ev) (S : LS) : LCalls G 8 [.one (.sl .sh (l.map prL)), .one (.sl .sh (evs.map evL))] (fun r _ => r = .one (bv true)) S := by
  have hD : TabOK G.P D := by rw [hP]; exact hD0
  have ea : EqTy G.P D 38 := by rw [hP]; exact H.eqAns
  have ep : EqTy G.P D 47 := by rw [hP]; exact ⟨by kernel_rfl, by kernel_rfl⟩
  have cw := wakes8_F hP
  refine LCalls.enter (fn := Try.f8) (by rw [hP]; exact Try.func8) rfl rfl ?_
  repeat (first | refine LOps.nil ?_ | refine andThen_normal ?_ | refine andThen_exit ?_ | refine andThen_ret ?_ | refine inBlock_normal ?_ | refine inBlock_ret ?_ | refine inBlock_here ?_ | refine inBlock_out rfl ?_ | refine LWp.seq ?_ | refine LWp.region ?_ | refine LWp.block ?_ | refine LWp.exit ?_ | refine LWp.ret ?_ | refine LWp.skip ?_ | refine LOps.val (LVal.call rfl rfl (by rw [hP]; exact Try.func9) rfl (by decide) (great8_F hP l evs)) rfl rfl rfl ?_ | refine LOps.whenC (LVal.call rfl rfl (by rw [hP]; exact Try.func9) rfl (by decide) (great8_F hP l evs)) ?_ | refine LOps.valA ?_ | refine LOps.outA ?_ | refine LOps.whenA ?_ | refine LOps.pickA ?_ | refine LOps.storeA ?_)
  refine LWp.cond rfl (fun h => ?_) (fun h => ?_)
  · repeat (first | refine LOps.nil ?_ | refine andThen_normal ?_ | refine andThen_exit ?_ | refine andThen_ret ?_ | refine inBlock_normal ?_ | refine inBlock_ret ?_ | refine inBlock_here ?_ | refine inBlock_out rfl ?_ | refine LWp.seq ?_ | refine LWp.region ?_ | refine LWp.block ?_ | refine LWp.exit ?_ | refine LWp.ret ?_ | refine LWp.skip ?_ | refine LOps.val (LVal.call rfl rfl (by rw [hP]; exact Try.func10) rfl (by decide) (cw)) rfl rfl rfl ?_ | refine LOps.whenC (LVal.call rfl rfl (by rw [hP]; exact Try.func10) rfl (by decide) (cw)) ?_ | refine LOps.valA ?_ | refine LOps.outA ?_ | refine LOps.whenA ?_ | refine LOps.pickA ?_ | refine LOps.storeA ?_)
    exact ⟨_, LRes.one rfl, rfl⟩
  have ok := ok8_of h
  have hne := ok.ne
  have hnl := ok.nl
  have c5 := after_F hP l (by omega) evs (by omega)
  repeat (first | refine LOps.nil ?_ | refine andThen_normal ?_ | refine andThen_exit ?_ | refine andThen_ret ?_ | refine inBlock_normal ?_ | refine inBlock_ret ?_ | refine inBlock_here ?_ | refine inBlock_out rfl ?_ | refine LWp.seq ?_ | refine LWp.region ?_ | refine LWp.block ?_ | refine LWp.exit ?_ | refine LWp.ret ?_ | refine LWp.skip ?_ | refine LOps.val (LVal.call rfl rfl (by rw [hP]; exact Try.func21) rfl (by decide) (H.check_F hP evs (by omega))) rfl rfl rfl ?_ | refine LOps.whenC (LVal.call rfl rfl (by rw [hP]; exact Try.func21) rfl (by decide) (H.check_F hP evs (by omega))) ?_ | refine LOps.valA ?_ | refine LOps.outA ?_ | refine LOps.whenA ?_ | refine LOps.pickA ?_ | refine LOps.storeA ?_)
  refine LWp.cond rfl (fun h => ?_) (fun h => ?_)
  · have e : afterL l evs = [] := if_pos h
    rw [e] at c5
    repeat (first | refine LOps.nil ?_ | refine andThen_normal ?_ | refine andThen_exit ?_ | refine andThen_ret ?_ | refine inBlock_normal ?_ | refine inBlock_ret ?_ | refine inBlock_here ?_ | refine inBlock_out rfl ?_ | refine LWp.seq ?_ | refine LWp.region ?_ | refine LWp.block ?_ | refine LWp.exit ?_ | refine LWp.ret ?_ | refine LWp.skip ?_ | refine LOps.val (LVal.call rfl rfl (by rw [hP]; exact Try.func10) rfl (by decide) (cw)) rfl rfl rfl ?_ | refine LOps.val (LVal.call rfl rfl (by rw [hP]; exact Try.func17) rfl (by decide) (c5)) rfl rfl rfl ?_ | refine LOps.whenC (LVal.call rfl rfl (by rw [hP]; exact Try.func10) rfl (by decide) (cw)) ?_ | refine LOps.whenC (LVal.call rfl rfl (by rw [hP]; exact Try.func17) rfl (by decide) (c5)) ?_ | refine LOps.valA ?_ | refine LOps.outA ?_ | refine LOps.whenA ?_ | refine LOps.pickA ?_ | refine LOps.storeA ?_)
    exact ⟨_, LRes.one rfl, rfl⟩
  have h0 : (checkS (fun _ => noKn) evs 0).2 = 0 := by simpa using h
  obtain ⟨x1, x2⟩ := idle_same (l := l) h0
  have hkl := kept_len (dropI evs) evs
  have k1 := LF.check_F hP l (by omega) evs (by omega)
  have k2 := LF.check_F hP l (by omega) (kept (dropI evs) evs) (by omega)
  have k5 := after_F hP l (by omega) (kept (dropI evs) evs) (by omega)
  rw [x1] at k2
  rw [x2] at k5
  clear h
  repeat (first | refine LOps.nil ?_ | refine andThen_normal ?_ | refine andThen_exit ?_ | refine andThen_ret ?_ | refine inBlock_normal ?_ | refine inBlock_ret ?_ | refine inBlock_here ?_ | refine inBlock_out rfl ?_ | refine LWp.seq ?_ | refine LWp.region ?_ | refine LWp.block ?_ | refine LWp.exit ?_ | refine LWp.ret ?_ | refine LWp.skip ?_ | refine LOps.valA ?_ | refine LOps.outA ?_ | refine LOps.whenA ?_ | refine LOps.pickA ?_ | refine LOps.storeA ?_)
  refine LWp.loop (fun k T S' => ∃ T' j o', j ≤ evs.length ∧ k = evs.length - j ∧ S.le S' ∧ Owned S' 40 (kept (dropI evs) (evs.take j)).length o' ∧ Out S o' ∧
    T = over T' [(0, .one (.sl .sh (l.map prL))), (1, .one (.sl .sh (evs.map evL))), (7, .one (.sl o' ((kept (dropI evs) (evs.take j)).map evL))), (8, .one (iv j))]) evs.length ?_ ?_
  · exact ⟨_, 0, .nil, by omega, by omega, .refl _, rfl, .nil _, holds.over ⟨rfl, rfl, rfl, rfl, trivial⟩⟩
  rintro k T S' ⟨T', j, o', hj, rfl, hle, hown, hout, rfl⟩
  have hkj := kept_len (dropI evs) (evs.take j)
  rw [List.length_take] at hkj
  repeat (first | refine LOps.nil ?_ | refine andThen_normal ?_ | refine andThen_exit ?_ | refine andThen_ret ?_ | refine inBlock_normal ?_ | refine inBlock_ret ?_ | refine inBlock_here ?_ | refine inBlock_out rfl ?_ | refine LWp.seq ?_ | refine LWp.region ?_ | refine LWp.block ?_ | refine LWp.exit ?_ | refine LWp.ret ?_ | refine LWp.skip ?_ | refine LOps.valA ?_ | refine LOps.outA ?_ | refine LOps.whenA ?_ | refine LOps.pickA ?_ | refine LOps.storeA ?_)
  refine LWp.cond rfl (fun h => ?_) (fun h => ?_)
  · have hlt : j < evs.length := by simpa using h
    have e1 := kept_take (D := dropI evs) hlt
    repeat (first | refine LOps.nil ?_ | refine andThen_normal ?_ | refine andThen_exit ?_ | refine andThen_ret ?_ | refine inBlock_normal ?_ | refine inBlock_ret ?_ | refine inBlock_here ?_ | refine inBlock_out rfl ?_ | refine LWp.seq ?_ | refine LWp.region ?_ | refine LWp.block ?_ | refine LWp.exit ?_ | refine LWp.ret ?_ | refine LWp.skip ?_ | refine LOps.val (LVal.call rfl rfl (by rw [hP]; exact Try.func22) rfl (by decide) (state_F hP evs (by omega) ok.ws evs[j].id)) rfl rfl rfl ?_ | refine LOps.whenC (LVal.call rfl rfl (by rw [hP]; exact Try.func22) rfl (by decide) (state_F hP evs (by omega) ok.ws evs[j].id)) ?_ | refine LOps.valA ?_ | refine LOps.outA ?_ | refine LOps.whenA ?_ | refine LOps.pickA ?_ | refine LOps.storeA ?_)
    refine LOps.do (LDo.alloc hD rfl rfl rfl) rfl rfl rfl ?_
    rintro _ _ ⟨b9, hb9, rfl, rfl⟩
    have s9 := hle.none hb9
    refine LOps.do (LDo.alloc hD rfl rfl rfl) rfl rfl rfl ?_
    rintro _ _ ⟨b10, hb10, rfl, rfl⟩
    have s10 := (hle.newBox hb9 _).none hb10
    have n910 : b9 ≠ b10 := fresh_ne hb10 (box_new _ _ _)
    have n109 := n910.symm
    have l9 := (((hle.newBox hb9 (lzero ti34)).newBox hb10 (lzero ti38)).setBox s9 (opL (findE evs 1 evs[j].id).op)).setBox s10 (ansL (findE evs 2 evs[j].id).ans)
    repeat (first | refine LOps.whenC (LVal.shTo (LVal.build hD rfl rfl rfl rfl rfl rfl rfl) rfl) ?_ | refine LOps.nil ?_ | refine andThen_normal ?_ | refine andThen_exit ?_ | refine andThen_ret ?_ | refine inBlock_normal ?_ | refine inBlock_ret ?_ | refine inBlock_here ?_ | refine inBlock_out rfl ?_ | refine LWp.seq ?_ | refine LWp.region ?_ | refine LWp.block ?_ | refine LWp.exit ?_ | refine LWp.ret ?_ | refine LWp.skip ?_ | refine LOps.valA ?_ | refine LOps.outA ?_ | refine LOps.whenA ?_ | refine LOps.pickA ?_ | refine LOps.storeA ?_)
    refine LWp.cond rfl (fun h => ?_) (fun h => ?_)
    · have hd : dropI evs evs[j].id = true := by
        unfold dropI idleS fullA busyA
        rw [← ans_eq, ← ans_eq]; exact h
      rw [hd, if_pos rfl, List.append_nil] at e1
      repeat (first | refine LOps.nil ?_ | refine andThen_normal ?_ | refine andThen_exit ?_ | refine andThen_ret ?_ | refine inBlock_normal ?_ | refine inBlock_ret ?_ | refine inBlock_here ?_ | refine inBlock_out rfl ?_ | refine LWp.seq ?_ | refine LWp.region ?_ | refine LWp.block ?_ | refine LWp.exit ?_ | refine LWp.ret ?_ | refine LWp.skip ?_ | refine LOps.valA ?_ | refine LOps.outA ?_ | refine LOps.whenA ?_ | refine LOps.pickA ?_ | refine LOps.storeA ?_)
      exact ⟨evs.length - (j + 1), by omega, _, j + 1, o', by omega, rfl, l9, by rw [e1]; exact hown, hout, holds.over ⟨rfl, rfl, by rw [e1]; rfl, rfl, trivial⟩⟩
    have hd : dropI evs evs[j].id = false := by
      unfold dropI idleS fullA busyA
      rw [← ans_eq, ← ans_eq]; exact h
    rw [hd, if_neg (by decide)] at e1
    repeat (first | refine LOps.nil ?_ | refine andThen_normal ?_ | refine andThen_exit ?_ | refine andThen_ret ?_ | refine inBlock_normal ?_ | refine inBlock_ret ?_ | refine inBlock_here ?_ | refine inBlock_out rfl ?_ | refine LWp.seq ?_ | refine LWp.region ?_ | refine LWp.block ?_ | refine LWp.exit ?_ | refine LWp.ret ?_ | refine LWp.skip ?_ | refine LOps.valA ?_ | refine LOps.outA ?_ | refine LOps.whenA ?_ | refine LOps.pickA ?_ | refine LOps.storeA ?_)
    refine LOps.do (LDo.push hD rfl rfl rfl rfl rfl rfl rfl rfl rfl rfl (show _ = (kept (dropI evs) (evs.take j)).length by simp) hown (by omega)) rfl rfl rfl ?_
    rintro _ S3 ⟨o3, rfl, own3, hup, hno⟩
    repeat (first | refine LOps.nil ?_ | refine andThen_normal ?_ | refine andThen_exit ?_ | refine andThen_ret ?_ | refine inBlock_normal ?_ | refine inBlock_ret ?_ | refine inBlock_here ?_ | refine inBlock_out rfl ?_ | refine LWp.seq ?_ | refine LWp.region ?_ | refine LWp.block ?_ | refine LWp.exit ?_ | refine LWp.ret ?_ | refine LWp.skip ?_ | refine LOps.valA ?_ | refine LOps.outA ?_ | refine LOps.whenA ?_ | refine LOps.pickA ?_ | refine LOps.storeA ?_)
    refine ⟨evs.length - (j + 1), by omega, _, j + 1, o3, by omega, rfl, l9.upto hup hout, ?_, hout.next l9 hno, holds.over ⟨rfl, rfl, ?_, rfl, trivial⟩⟩
    · rw [e1]; exact own3.ofN (by simp)
    · rw [e1]; exact Eq.trans rfl (congrArg (fun x => TV.one (LV.sl o3 x)) (List.map_append (f := evL) (l₁ := kept (dropI evs) (evs.take j)) (l₂ := [evs[j]])).symm)
  have hge : evs.length ≤ j := by simpa using h
  rw [List.take_of_length_le hge]
  have hal := afterL_len l evs
  clear x1 x2
  generalize checkL l evs = K at *
  generalize afterL l evs = A at *
  have ham : (A.map prL).length = A.length := List.length_map ..
  repeat (first | refine LOps.nil ?_ | refine andThen_normal ?_ | refine andThen_exit ?_ | refine andThen_ret ?_ | refine inBlock_normal ?_ | refine inBlock_ret ?_ | refine inBlock_here ?_ | refine inBlock_out rfl ?_ | refine LWp.seq ?_ | refine LWp.region ?_ | refine LWp.block ?_ | refine LWp.exit ?_ | refine LWp.ret ?_ | refine LWp.skip ?_ | refine LOps.val (LVal.call rfl rfl (by rw [hP]; exact Try.func11) rfl (by decide) (k1)) rfl rfl rfl ?_ | refine LOps.val (LVal.call rfl rfl (by rw [hP]; exact Try.func11) rfl (by decide) (k2)) rfl rfl rfl ?_ | refine LOps.val (LVal.call rfl rfl (by rw [hP]; exact Try.func17) rfl (by decide) (c5)) rfl rfl rfl ?_ | refine LOps.val (LVal.call rfl rfl (by rw [hP]; exact Try.func17) rfl (by decide) (k5)) rfl rfl rfl ?_ | refine LOps.whenC (LVal.call rfl rfl (by rw [hP]; exact Try.func11) rfl (by decide) (k1)) ?_ | refine LOps.whenC (LVal.call rfl rfl (by rw [hP]; exact Try.func11) rfl (by decide) (k2)) ?_ | refine LOps.whenC (LVal.call rfl rfl (by rw [hP]; exact Try.func17) rfl (by decide) (c5)) ?_ | refine LOps.whenC (LVal.call rfl rfl (by rw [hP]; exact Try.func17) rfl (by decide) (k5)) ?_ | refine LOps.valA ?_ | refine LOps.outA ?_ | refine LOps.whenA ?_ | refine LOps.pickA ?_ | refine LOps.storeA ?_)
  refine LWp.cond rfl (fun h => ?_) (fun h => ?_)
  · exact absurd h (by simp)
  repeat (first | refine LOps.nil ?_ | refine andThen_normal ?_ | refine andThen_exit ?_ | refine andThen_ret ?_ | refine inBlock_normal ?_ | refine inBlock_ret ?_ | refine inBlock_here ?_ | refine inBlock_out rfl ?_ | refine LWp.seq ?_ | refine LWp.region ?_ | refine LWp.block ?_ | refine LWp.exit ?_ | refine LWp.ret ?_ | refine LWp.skip ?_ | refine LOps.valA ?_ | refine LOps.outA ?_ | refine LOps.whenA ?_ | refine LOps.pickA ?_ | refine LOps.storeA ?_)
  refine LWp.loop (fun m T S' => ∃ (T' : Nat → TV) (j : Nat), j ≤ A.length ∧ m = A.length - j ∧ T = over T' [(16, .one (.sl .sh (A.map prL))), (17, .one (.sl .sh (A.map prL))), (18, .one (iv (j : Nat)))]) A.length ?_ ?_
  · exact ⟨_, 0, by omega, by omega, holds.over ⟨rfl, rfl, rfl, trivial⟩⟩
  rintro m T S1 ⟨T', j, hj, rfl, rfl⟩
  repeat (first | refine LOps.nil ?_ | refine andThen_normal ?_ | refine andThen_exit ?_ | refine andThen_ret ?_ | refine inBlock_normal ?_ | refine inBlock_ret ?_ | refine inBlock_here ?_ | refine inBlock_out rfl ?_ | refine LWp.seq ?_ | refine LWp.region ?_ | refine LWp.block ?_ | refine LWp.exit ?_ | refine LWp.ret ?_ | refine LWp.skip ?_ | refine LOps.valA ?_ | refine LOps.outA ?_ | refine LOps.whenA ?_ | refine LOps.pickA ?_ | refine LOps.storeA ?_)
  refine LWp.cond rfl (fun h => ?_) (fun h => ?_)
  · have hlt : j < A.length := by simpa using h
    repeat (first | refine LOps.nil ?_ | refine andThen_normal ?_ | refine andThen_exit ?_ | refine andThen_ret ?_ | refine inBlock_normal ?_ | refine inBlock_ret ?_ | refine inBlock_here ?_ | refine inBlock_out rfl ?_ | refine LWp.seq ?_ | refine LWp.region ?_ | refine LWp.block ?_ | refine LWp.exit ?_ | refine LWp.ret ?_ | refine LWp.skip ?_)
    refine LWp.drawL [0, 1, 2, 3, 4, 5, 6, 7, 8] (by rw [hP]; rfl) rfl ?_
    repeat (first | refine LRl.val (fun _ _ => LVal.to (LVal.neqAgg hD rfl rfl rfl rfl rfl ep rfl) (r' := .one (bv false)) (by exact congrArg (fun b => TV.one (bv b)) (show (!eqPr A[j] A[j]) = false by rw [eqPr_iff]; simp))) rfl rfl rfl ?_ | refine LRl.nil ?_ | refine LRl.valA ?_ | refine LRl.outA ?_ | refine LRl.whenA ?_ | refine LRl.pickA ?_)
    refine andThen_normal ?_
    repeat (first | refine LOps.nil ?_ | refine andThen_normal ?_ | refine andThen_exit ?_ | refine andThen_ret ?_ | refine inBlock_normal ?_ | refine inBlock_ret ?_ | refine inBlock_here ?_ | refine inBlock_out rfl ?_ | refine LWp.seq ?_ | refine LWp.region ?_ | refine LWp.block ?_ | refine LWp.exit ?_ | refine LWp.ret ?_ | refine LWp.skip ?_ | refine LOps.valA ?_ | refine LOps.outA ?_ | refine LOps.whenA ?_ | refine LOps.pickA ?_ | refine LOps.storeA ?_)
    refine LWp.cond rfl (fun h => ?_) (fun h => ?_)
    · cases h
    repeat (first | refine LOps.nil ?_ | refine andThen_normal ?_ | refine andThen_exit ?_ | refine andThen_ret ?_ | refine inBlock_normal ?_ | refine inBlock_ret ?_ | refine inBlock_here ?_ | refine inBlock_out rfl ?_ | refine LWp.seq ?_ | refine LWp.region ?_ | refine LWp.block ?_ | refine LWp.exit ?_ | refine LWp.ret ?_ | refine LWp.skip ?_ | refine LOps.valA ?_ | refine LOps.outA ?_ | refine LOps.whenA ?_ | refine LOps.pickA ?_ | refine LOps.storeA ?_)
    exact ⟨A.length - (j + 1), by omega, _, j + 1, by omega, rfl, holds.over ⟨rfl, rfl, rfl, trivial⟩⟩
  · repeat (first | refine LOps.nil ?_ | refine andThen_normal ?_ | refine andThen_exit ?_ | refine andThen_ret ?_ | refine inBlock_normal ?_ | refine inBlock_ret ?_ | refine inBlock_here ?_ | refine inBlock_out rfl ?_ | refine LWp.seq ?_ | refine LWp.region ?_ | refine LWp.block ?_ | refine LWp.exit ?_ | refine LWp.ret ?_ | refine LWp.skip ?_ | refine LOps.val (LVal.call rfl rfl (by rw [hP]; exact Try.func10) rfl (by decide) (cw)) rfl rfl rfl ?_ | refine LOps.whenC (LVal.call rfl rfl (by rw [hP]; exact Try.func10) rfl (by decide) (cw)) ?_ | refine LOps.valA ?_ | refine LOps.outA ?_ | refine LOps.whenA ?_ | refine LOps.pickA ?_ | refine LOps.storeA ?_)
    exact ⟨_, LRes.one rfl, rfl⟩
end Go.Proofs.Ytandbjhedkgldaa.LF

namespace Go.Proofs.Ytandbjhedkgldaa
open Go.RowKit LF
theorem linearIdle_walk (W : World) (v0 : Value) (l0 : List LV) (y0 : Typed LF.D 22 l0) (g0 : RepT (G0 Try.prog W) W (allCells W) (argTV ti22 l0) v0) (v1 : Value) (l1 : List LV) (y1 : Typed LF.D 23 l1) (g1 : RepT (G0 Try.prog W) W (allCells W) (argTV ti23 l1) v1) :
    Calls Try.prog 8 #[v0, v1] W fun e W' => e = .returned (.bool true) ∧ Below W.heap.size W W' := by
  obtain ⟨l, rfl⟩ := LF.typed_prs y0
  obtain ⟨evs, rfl⟩ := H.typed_evs y1
  exact law_calls (fun G S h => idle8_L h l evs S) (.cons (vs := [v1]) g0 (.cons (vs := []) g1 .nil))
end Go.Proofs.Ytandbjhedkgldaa
