/- The law's walks: All is what Next tells. -/
import Derived.Test.YtndcdmmmfplbbaaLOo
import Derived.Test.YtndcdmmmfplbbaaLSl
set_option linter.unusedVariables false
set_option linter.unusedSimpArgs false
namespace Go.Proofs.Ytndcdmmmfplbbaa.LF
open Go.RowKit
set_option linter.unusedVariables false

theorem ansR_eq (a : Ans) : eqAns a a = true := by rw [eqAns_iff]; simp
theorem next_ref {k : ByteArray} (after : Bool) (hk : k.size ≤ 24) : refusedO ⟨5, k, noBytes, noBytes, false, after, []⟩ = 0 := by
  rw [refusedO, if_pos (by simp)]
  show refusalS (largeS k noBytes) 7 = 0
  rw [large_key, decide_eq_false (by omega)]; rfl
theorem next_ans {l : List Pr} {k : ByteArray} (after : Bool) (hk : k.size ≤ 24) : doA l ⟨5, k, noBytes, noBytes, false, after, []⟩ = pairA (nextP l k after) := by
  rw [doA, if_pos (next_ref after hk), if_neg (by simp), if_neg (by simp), if_pos rfl]
theorem next_doM (l : List Pr) (k : ByteArray) (after : Bool) : doM l ⟨5, k, noBytes, noBytes, false, after, []⟩ = l := by
  by_cases h : refusedO ⟨5, k, noBytes, noBytes, false, after, []⟩ = 0
  · rw [doM, if_pos h, if_neg (by simp), if_neg (by simp), if_neg (by simp), if_neg (by simp)]
  · rw [doM, if_neg h]

set_option maxHeartbeats 16000000 in
set_option maxRecDepth 10000 in
theorem walks_L {G : Ctx} (hP : G.P = Try.prog) (l : List Pr) (hl : l.length ≤ 100000) (hz : Small5 l) (b : Nat) (X : LV) (S0 S : LS) (nw : NewO S0 S b X) (m : OM S b X l) : LCalls G 22 [ptr b] (fun r _ => r = .one (bv true)) S := by
  have hD : TabOK G.P D := by rw [hP]; exact hD0
  have ec : Unit → EqTy G.P D 35 := fun _ => by rw [hP]; exact ⟨by kernel_rfl, by kernel_rfl⟩
  have hs := m.srt
  have hml : (l.map prL).length = l.length := List.length_map ..
  have hle := LS.le.refl S0
  refine LCalls.enter (fn := Try.f22) (by rw [hP]; exact Try.func22) rfl rfl ?_
  repeat (first | refine LOps.nil ?_ | refine andThen_normal ?_ | refine andThen_exit ?_ | refine andThen_ret ?_ | refine inBlock_normal ?_ | refine inBlock_ret ?_ | refine inBlock_here ?_ | refine inBlock_out rfl ?_ | refine LWp.seq ?_ | refine LWp.region ?_ | refine LWp.block ?_ | refine LWp.exit ?_ | refine LWp.ret ?_ | refine LWp.skip ?_ | refine LOps.valA ?_ | refine LOps.outA ?_ | refine LOps.whenA ?_ | refine LOps.pickA ?_ | refine LOps.storeA ?_)
  refine LOps.valH (LDo.toVal (LDo.callX (allV_L hP l (by omega) b X S m) (by rw [hP]; exact Try.func14))) ?_
  repeat (first | refine LOps.nil ?_ | refine andThen_normal ?_ | refine andThen_exit ?_ | refine andThen_ret ?_ | refine inBlock_normal ?_ | refine inBlock_ret ?_ | refine inBlock_here ?_ | refine inBlock_out rfl ?_ | refine LWp.seq ?_ | refine LWp.region ?_ | refine LWp.block ?_ | refine LWp.exit ?_ | refine LWp.ret ?_ | refine LWp.skip ?_ | refine LOps.valA ?_ | refine LOps.outA ?_ | refine LOps.whenA ?_ | refine LOps.pickA ?_ | refine LOps.storeA ?_)
  refine LOps.do (LDo.callF (do_L hP (l) (by omega) (⟨5, noBytes, noBytes, noBytes, false, false, []⟩) b X _ m) (by rw [hP]; exact Try.func16)) rfl rfl rfl ?_
  rintro _ S2 ⟨rfl, X, m, mv2⟩
  replace nw := nw.mv mv2
  clear mv2
  rw [next_doM] at m
  refine LOps.do (LDo.alloc hD rfl rfl rfl) rfl rfl rfl ?_
  rintro _ _ ⟨b4, hb4, rfl, rfl⟩
  refine LOps.storeA (b := b4) (off := 0) (cs := ansL noAns) (l := ansL (doA l ⟨5, noBytes, noBytes, noBytes, false, false, []⟩)) ?_
  obtain ⟨S1, h01, k4, nw1, m1⟩ := nw.put m hb4 (ansL noAns) (ansL (doA l ⟨5, noBytes, noBytes, noBytes, false, false, []⟩))
  refine LOps.gen (fun S' => NewO S1 S' b X ∧ OM S' b X _) ⟨nw1, m1⟩ ?_
  replace hle := hle.trans h01
  clear nw m nw1 m1 h01 hb4
  rintro S2 ⟨nw, m⟩
  rw [next_ans false (by decide), next_first hs] at k4
  repeat (first | refine LOps.nil ?_ | refine andThen_normal ?_ | refine andThen_exit ?_ | refine andThen_ret ?_ | refine inBlock_normal ?_ | refine inBlock_ret ?_ | refine inBlock_here ?_ | refine inBlock_out rfl ?_ | refine LWp.seq ?_ | refine LWp.region ?_ | refine LWp.block ?_ | refine LWp.exit ?_ | refine LWp.ret ?_ | refine LWp.skip ?_ | refine LOps.valA ?_ | refine LOps.outA ?_ | refine LOps.whenA ?_ | refine LOps.pickA ?_ | refine LOps.storeA ?_)
  refine LWp.loop (fun k T S' => ∃ (T' : Nat → TV) (i : Nat) (X : LV) (S1 : LS), i ≤ l.length ∧ k = l.length - i ∧ NewO S1 S' b X ∧ OM S' b X l ∧ S1.box b4 = some (ansL (pairA l[i]?)) ∧ T = over T' [(0, ptr b), (3, .one (.sl .sh (l.map prL))), (4, ptr b4), (5, .one (iv (i : Nat)))]) l.length ?_ ?_
  · exact ⟨_, 0, X, S1, by omega, by omega, nw, m, k4, holds.over ⟨rfl, rfl, rfl, rfl, trivial⟩⟩
  clear nw m k4 hle
  rintro k T S3 ⟨T', i, X, S1, hi, rfl, nw, m, k4, rfl⟩
  have q4 := nw.le.box _ _ k4
  repeat (first | refine LOps.nil ?_ | refine andThen_normal ?_ | refine andThen_exit ?_ | refine andThen_ret ?_ | refine inBlock_normal ?_ | refine inBlock_ret ?_ | refine inBlock_here ?_ | refine inBlock_out rfl ?_ | refine LWp.seq ?_ | refine LWp.region ?_ | refine LWp.block ?_ | refine LWp.exit ?_ | refine LWp.ret ?_ | refine LWp.skip ?_ | refine LOps.valA ?_ | refine LOps.outA ?_ | refine LOps.whenA ?_ | refine LOps.pickA ?_ | refine LOps.storeA ?_)
  refine LWp.cond rfl (fun h => ?_) (fun h => ?_)
  · have hlt : i < l.length := by simp at h; omega
    have hn1 : i - 1 < l.length := by omega
    have z1 := hz _ (List.getElem_mem hlt)
    have z2 := hz _ (List.getElem_mem hn1)
    have cl := less_F hP l[i - 1].key l[i].key (by omega) (by omega)
    rw [List.getElem?_eq_getElem hlt] at k4 q4
    repeat (first | refine LOps.nil ?_ | refine andThen_normal ?_ | refine andThen_exit ?_ | refine andThen_ret ?_ | refine inBlock_normal ?_ | refine inBlock_ret ?_ | refine inBlock_here ?_ | refine inBlock_out rfl ?_ | refine LWp.seq ?_ | refine LWp.region ?_ | refine LWp.block ?_ | refine LWp.exit ?_ | refine LWp.ret ?_ | refine LWp.skip ?_ | refine LOps.valA ?_ | refine LOps.outA ?_ | refine LOps.whenA ?_ | refine LOps.pickA ?_ | refine LOps.storeA ?_)
    refine LWp.drawL [0, 1, 2, 3, 4, 5, 6, 7, 8, 9, 10, 11, 12, 13, 14, 15, 16] (by rw [hP]; rfl) rfl ?_
    repeat (first | refine LRl.whenA (g := (decide ((i : Int) > 0) == true)) (r := .one (iv ((i - 1 : Nat) : Int))) ?_ (h := fun _ _ hw => LVal.to (LVal.sub64 rfl rfl rfl (by omega)) (congrArg (fun z => TV.one (iv z)) (by simp at hw; omega))) | refine LRl.valC (fun _ => (LVal.call rfl rfl (by rw [hP]; exact Try.func38) rfl (by decide) (cl))) ?_ | refine LRl.whenC (fun _ => (LVal.call rfl rfl (by rw [hP]; exact Try.func38) rfl (by decide) (cl))) ?_ | refine LRl.nil ?_ | refine LRl.valA ?_ | refine LRl.outA ?_ | refine LRl.whenA ?_ | refine LRl.pickA ?_)
    repeat (first | refine LOps.nil ?_ | refine andThen_normal ?_ | refine andThen_exit ?_ | refine andThen_ret ?_ | refine inBlock_normal ?_ | refine inBlock_ret ?_ | refine inBlock_here ?_ | refine inBlock_out rfl ?_ | refine LWp.seq ?_ | refine LWp.region ?_ | refine LWp.block ?_ | refine LWp.exit ?_ | refine LWp.ret ?_ | refine LWp.skip ?_ | refine LOps.valA ?_ | refine LOps.outA ?_ | refine LOps.whenA ?_ | refine LOps.pickA ?_ | refine LOps.storeA ?_)
    refine LWp.cond rfl (fun h2 => ?_) (fun h2 => ?_)
    · exfalso
      have h2 : (decide ((i : Int) > 0) && !ltS l[i - 1].key l[i].key) = true := h2
      rw [Bool.and_eq_true, decide_eq_true_eq] at h2
      rw [hs.at (by omega) hlt] at h2
      cases h2.2
    clear h2 cl
    repeat (first | refine LOps.nil ?_ | refine andThen_normal ?_ | refine andThen_exit ?_ | refine andThen_ret ?_ | refine inBlock_normal ?_ | refine inBlock_ret ?_ | refine inBlock_here ?_ | refine inBlock_out rfl ?_ | refine LWp.seq ?_ | refine LWp.region ?_ | refine LWp.block ?_ | refine LWp.exit ?_ | refine LWp.ret ?_ | refine LWp.skip ?_ | refine LOps.valA ?_ | refine LOps.outA ?_ | refine LOps.whenA ?_ | refine LOps.pickA ?_ | refine LOps.storeA ?_)
    refine LWp.drawL [0, 1, 2, 3, 4, 5, 6, 7, 8, 9, 10, 11, 12] (by rw [hP]; rfl) rfl ?_
    repeat (first | refine LRl.val (fun _ hS => LVal.load hD rfl rfl (hS.box _ _ q4 id) rfl rfl) rfl rfl rfl ?_ | refine LRl.val (fun _ _ => LVal.to (LVal.neqAgg hD rfl rfl rfl rfl rfl (ec ()) rfl) (r' := .one (bv false)) (by exact congrArg (fun b => TV.one (bv b)) (ans_ne ⟨0, true, l[i].key, l[i].val⟩))) rfl rfl rfl ?_ | refine LRl.nil ?_ | refine LRl.valA ?_ | refine LRl.outA ?_ | refine LRl.whenA ?_ | refine LRl.pickA ?_)
    repeat (first | refine LOps.nil ?_ | refine andThen_normal ?_ | refine andThen_exit ?_ | refine andThen_ret ?_ | refine inBlock_normal ?_ | refine inBlock_ret ?_ | refine inBlock_here ?_ | refine inBlock_out rfl ?_ | refine LWp.seq ?_ | refine LWp.region ?_ | refine LWp.block ?_ | refine LWp.exit ?_ | refine LWp.ret ?_ | refine LWp.skip ?_ | refine LOps.valA ?_ | refine LOps.outA ?_ | refine LOps.whenA ?_ | refine LOps.pickA ?_ | refine LOps.storeA ?_)
    refine LWp.condF rfl ?_
    repeat (first | refine LOps.nil ?_ | refine andThen_normal ?_ | refine andThen_exit ?_ | refine andThen_ret ?_ | refine inBlock_normal ?_ | refine inBlock_ret ?_ | refine inBlock_here ?_ | refine inBlock_out rfl ?_ | refine LWp.seq ?_ | refine LWp.region ?_ | refine LWp.block ?_ | refine LWp.exit ?_ | refine LWp.ret ?_ | refine LWp.skip ?_ | refine LOps.valA ?_ | refine LOps.outA ?_ | refine LOps.whenA ?_ | refine LOps.pickA ?_ | refine LOps.storeA ?_)
    refine LWp.cond rfl (fun h3 => ?_) (fun h3 => ?_)
    · repeat (first | refine LOps.nil ?_ | refine andThen_normal ?_ | refine andThen_exit ?_ | refine andThen_ret ?_ | refine inBlock_normal ?_ | refine inBlock_ret ?_ | refine inBlock_here ?_ | refine inBlock_out rfl ?_ | refine LWp.seq ?_ | refine LWp.region ?_ | refine LWp.block ?_ | refine LWp.exit ?_ | refine LWp.ret ?_ | refine LWp.skip ?_ | refine LOps.valA ?_ | refine LOps.outA ?_ | refine LOps.whenA ?_ | refine LOps.pickA ?_ | refine LOps.storeA ?_)
      exact ⟨_, LRes.one rfl, rfl⟩
    have h3 : decide ((l[i].key.size : Int) > 24) = false := h3
    have hk : l[i].key.size ≤ 24 := by rw [decide_eq_false_iff_not] at h3; omega
    have hna := next_ans (l := l) true hk
    rw [next_at hs hlt] at hna
    repeat (first | refine LOps.nil ?_ | refine andThen_normal ?_ | refine andThen_exit ?_ | refine andThen_ret ?_ | refine inBlock_normal ?_ | refine inBlock_ret ?_ | refine inBlock_here ?_ | refine inBlock_out rfl ?_ | refine LWp.seq ?_ | refine LWp.region ?_ | refine LWp.block ?_ | refine LWp.exit ?_ | refine LWp.ret ?_ | refine LWp.skip ?_ | refine LOps.valA ?_ | refine LOps.outA ?_ | refine LOps.whenA ?_ | refine LOps.pickA ?_ | refine LOps.storeA ?_)
    refine LOps.do (LDo.callF (do_L hP l hl ⟨5, l[i].key, noBytes, noBytes, false, true, []⟩ b X _ m) (by rw [hP]; exact Try.func16)) rfl rfl rfl ?_
    rintro _ S5 ⟨rfl, X5, m5, mv⟩
    rw [next_doM] at m5
    have nw5 := nw.mv mv
    have q5 := nw5.le.box _ _ k4
    refine LOps.do0 (LDo.store hD rfl rfl q5 rfl rfl rfl rfl) rfl rfl ?_
    rintro _ _ ⟨rfl, rfl⟩
    obtain ⟨nw6, m6⟩ := nw5.set m5 k4 (ansL (doA l ⟨5, l[i].key, noBytes, noBytes, false, true, []⟩))
    repeat (first | refine LOps.nil ?_ | refine andThen_normal ?_ | refine andThen_exit ?_ | refine andThen_ret ?_ | refine inBlock_normal ?_ | refine inBlock_ret ?_ | refine inBlock_here ?_ | refine inBlock_out rfl ?_ | refine LWp.seq ?_ | refine LWp.region ?_ | refine LWp.block ?_ | refine LWp.exit ?_ | refine LWp.ret ?_ | refine LWp.skip ?_ | refine LOps.valA ?_ | refine LOps.outA ?_ | refine LOps.whenA ?_ | refine LOps.pickA ?_ | refine LOps.storeA ?_)
    exact ⟨l.length - (i + 1), by omega, _, i + 1, X5, S1.setBox b4 (ansL (doA l ⟨5, l[i].key, noBytes, noBytes, false, true, []⟩)), by omega, rfl, nw6, m6, by rw [hna]; exact box_set _ _ _, holds.over ⟨rfl, rfl, rfl, rfl, trivial⟩⟩
  · have hge : i = l.length := by simp at h; omega
    subst hge
    rw [List.getElem?_eq_none (Nat.le_refl _)] at q4
    repeat (first | refine LOps.valH (LVal.load hD rfl rfl q4 rfl rfl) ?_ | refine LOps.valH (LVal.to (LVal.eqAgg hD rfl rfl rfl rfl rfl (ec ()) rfl) (r' := .one (bv true)) (by exact congrArg (fun b => TV.one (bv b)) (ansR_eq noAns))) ?_ | refine LOps.valW ?_ | refine LOps.valH (LDo.toVal (LDo.callX (len_L hP l b X _ m) (by rw [hP]; exact Try.func20))) ?_ | refine LOps.nil ?_ | refine andThen_normal ?_ | refine andThen_exit ?_ | refine andThen_ret ?_ | refine inBlock_normal ?_ | refine inBlock_ret ?_ | refine inBlock_here ?_ | refine inBlock_out rfl ?_ | refine LWp.seq ?_ | refine LWp.region ?_ | refine LWp.block ?_ | refine LWp.exit ?_ | refine LWp.ret ?_ | refine LWp.skip ?_ | refine LOps.valA ?_ | refine LOps.outA ?_ | refine LOps.whenA ?_ | refine LOps.pickA ?_ | refine LOps.storeA ?_)
    exact ⟨_, LRes.one rfl, by
      show TV.one (bv (((l.length : Nat) : Int) == ((l.map prL).length : Int))) = _
      rw [hml, beq_self_eq_true]⟩
end Go.Proofs.Ytndcdmmmfplbbaa.LF
