/- The walk of the law 'OmapBatch'. (Printed by gen_batch.py.) -/
import Derived.Test.YtndcdmmmfplbbaaLOp
set_option linter.unusedVariables false
set_option linter.unusedSimpArgs false
namespace Go.Proofs.Ytndcdmmmfplbbaa.LF
open Go.RowKit
set_option linter.unusedVariables false

abbrev wover : ByteArray := { data := #[119, 114, 105, 116, 116, 101, 110, 32, 111, 118, 101, 114] }
abbrev batO (ws : List Wr) : OpV := ⟨6, noBytes, noBytes, noBytes, false, false, ws⟩
abbrev oneO (w : Wr) : OpV := ⟨if w.gone then 3 else 2, w.key, w.val, noBytes, false, false, []⟩
theorem ansB_eq (a : Ans) : eqAns a a = true := by rw [eqAns_iff]; simp
theorem batch_bad {ws : List Wr} (h : refusedO (batO ws) = 0) : ∀ w ∈ ws, badW w = false := fun w hw => by
  have hl := refused_long h rfl
  unfold refusedO at h
  rw [if_neg (by simp [batO]), if_neg (by simp [batO]), if_neg (by simp [batO]), if_pos rfl, if_neg (by omega)] at h
  cases hb : badW w with
  | false => rfl
  | true =>
    have : ws.any badW = true := List.any_eq_true.2 ⟨w, hw, hb⟩
    have h2 : refusalS (ws.any badW) 7 = 0 := h
    rw [this] at h2; cases h2
theorem batch_one {w : Wr} (h : badW w = false) (l : List Pr) : doM l (oneO w) = stepW l w := by
  unfold badW at h
  rw [Bool.or_eq_false_iff] at h
  obtain ⟨h1, h2⟩ := h
  rw [large_key] at h1
  cases hg : w.gone with
  | true =>
    have e : oneO w = ⟨3, w.key, w.val, noBytes, false, false, []⟩ := by simp [oneO, hg]
    have hr : refusedO (oneO w) = 0 := by
      rw [e, refusedO, if_pos (by simp)]
      show refusalS (largeS w.key noBytes) 7 = 0
      rw [large_key, h1]; rfl
    rw [doM, if_pos hr, e, stepW, if_pos hg]; rfl
  | false =>
    have e : oneO w = ⟨2, w.key, w.val, noBytes, false, false, []⟩ := by simp [oneO, hg]
    rw [hg, large_val] at h2
    have h2 : decide ((w.val.size : Int) > 32) = false := h2
    have hr : refusedO (oneO w) = 0 := by
      rw [e, refusedO, if_neg (by simp), if_pos (by simp)]
      show refusalS (largeS w.key w.val) 7 = 0
      have : largeS w.key w.val = false := by unfold largeS; rw [h1, h2]; rfl
      rw [this]; rfl
    rw [doM, if_pos hr, e, stepW]; simp [hg]
theorem batch_do (ws : List Wr) (l : List Pr) : doA l (batO ws) = ⟨refusedO (batO ws), false, noBytes, noBytes⟩ ∧ (refusedO (batO ws) = 0 → doM l (batO ws) = ws.foldl stepW l) ∧ (refusedO (batO ws) ≠ 0 → doM l (batO ws) = l) := by
  refine ⟨?_, fun h => ?_, fun h => ?_⟩
  · unfold doA
    split
    · rename_i h
      rw [h]; simp [noAns]
    · rfl
  · rw [doM, if_pos h]; rfl
  · rw [doM, if_neg h]

set_option maxHeartbeats 32000000 in
set_option maxRecDepth 20000 in
theorem batch_L {G : Ctx} (hP : G.P = Try.prog) (l : List Pr) (ws : List Wr) (S : LS) : LCalls G 6 [.one (.sl .sh (l.map prL)), .one (.sl .sh (ws.map wrL))] (fun r _ => r = .one (bv true)) S := by
  have hD : TabOK G.P D := by rw [hP]; exact hD0
  have ea : EqTy G.P D 50 := by rw [hP]; exact ⟨by kernel_rfl, by kernel_rfl⟩
  have ec : Unit → EqTy G.P D 35 := fun _ => by rw [hP]; exact ⟨by kernel_rfl, by kernel_rfl⟩
  have cg := great_F hP l [batO ws]
  have cw := wakes_F hP
  have cr := refused_F hP (batO ws)
  have hmw : (ws.map wrL).length = ws.length := List.length_map ..
  refine LCalls.enter (fn := Try.f6) (by rw [hP]; exact Try.func6) rfl rfl ?_
  repeat (first | refine LOps.nil ?_ | refine andThen_normal ?_ | refine andThen_exit ?_ | refine andThen_ret ?_ | refine inBlock_normal ?_ | refine inBlock_ret ?_ | refine inBlock_here ?_ | refine inBlock_out rfl ?_ | refine LWp.seq ?_ | refine LWp.region ?_ | refine LWp.block ?_ | refine LWp.exit ?_ | refine LWp.ret ?_ | refine LWp.skip ?_ | refine LOps.valA ?_ | refine LOps.outA ?_ | refine LOps.whenA ?_ | refine LOps.pickA ?_ | refine LOps.storeA ?_)
  have hle := LS.le.refl S
  refine LOps.do (LDo.alloc hD rfl rfl rfl) rfl rfl rfl ?_
  rintro _ _ ⟨b5, hb5, rfl, rfl⟩
  have s5 := hle.none hb5
  refine LOps.gen (fun S' => S.le S' ∧ S'.box b5 = some ([uv 0, sv noBytes, sv noBytes, sv noBytes, bv false, bv false, .sl .nil []])) ⟨hle.newBox hb5 _, box_new _ _ _⟩ ?_
  clear hle hb5 
  rintro S5 ⟨hle, k5⟩
  refine LOps.storeA (b := b5) (off := 0) (cs := [uv 0, sv noBytes, sv noBytes, sv noBytes, bv false, bv false, .sl .nil []]) (l := opL (batO ws)) ?_
  refine LOps.gen (fun S' => S.le S' ∧ S'.box b5 = some (opL (batO ws))) ⟨hle.setBox s5 _, (box_set _ _ _).trans (congrArg some (rfl))⟩ ?_
  clear hle k5
  rintro Ss ⟨hle, k5⟩
  repeat (first | refine LOps.valH (LVal.load hD rfl rfl k5 rfl rfl) ?_ | refine LOps.valH (LVal.to (LVal.buildSlice (n := 1) (ps := [(0, .tmp 17)]) (lp := [(0, opL (batO ws))]) (l := opL (batO ws)) hD rfl rfl rfl rfl rfl rfl rfl rfl rfl rfl) (r' := .one (.sl .sh ([batO ws].map opL))) rfl) ?_ | refine LOps.nil ?_ | refine andThen_normal ?_ | refine andThen_exit ?_ | refine andThen_ret ?_ | refine inBlock_normal ?_ | refine inBlock_ret ?_ | refine inBlock_here ?_ | refine inBlock_out rfl ?_ | refine LWp.seq ?_ | refine LWp.region ?_ | refine LWp.block ?_ | refine LWp.exit ?_ | refine LWp.ret ?_ | refine LWp.skip ?_ | refine LOps.val (LVal.call rfl rfl (by rw [hP]; exact Try.func9) rfl (by decide) (cg)) rfl rfl rfl ?_ | refine LOps.whenC (LVal.call rfl rfl (by rw [hP]; exact Try.func9) rfl (by decide) (cg)) ?_ | refine LOps.valA ?_ | refine LOps.outA ?_ | refine LOps.whenA ?_ | refine LOps.pickA ?_ | refine LOps.storeA ?_)
  refine LWp.cond rfl (fun h => ?_) (fun h => ?_)
  · repeat (first | refine LOps.nil ?_ | refine andThen_normal ?_ | refine andThen_exit ?_ | refine andThen_ret ?_ | refine inBlock_normal ?_ | refine inBlock_ret ?_ | refine inBlock_here ?_ | refine inBlock_out rfl ?_ | refine LWp.seq ?_ | refine LWp.region ?_ | refine LWp.block ?_ | refine LWp.exit ?_ | refine LWp.ret ?_ | refine LWp.skip ?_ | refine LOps.val (LVal.call rfl rfl (by rw [hP]; exact Try.func10) rfl (by decide) (cw)) rfl rfl rfl ?_ | refine LOps.whenC (LVal.call rfl rfl (by rw [hP]; exact Try.func10) rfl (by decide) (cw)) ?_ | refine LOps.valA ?_ | refine LOps.outA ?_ | refine LOps.whenA ?_ | refine LOps.pickA ?_ | refine LOps.storeA ?_)
    exact ⟨_, LRes.one rfl, rfl⟩
  have h : greatS l [batO ws] = false := h
  have hf := fine_of h
  have hx := fineO_of (hf.os (batO ws) (by simp))
  have hnl := newP_length l
  have hfl := hf.nl
  have hxw : ws.length ≤ 40 := hx.n
  have hs := newP_srt l
  obtain ⟨eA, eM0, eM1⟩ := batch_do ws (newP l)
  have hlx := doM_length (newP l) (batO ws)
  clear h
  obtain ⟨S0, hS0⟩ : ∃ S0, S0 = Ss := ⟨_, rfl⟩
  have hle7 : S0.le Ss := hS0 ▸ .refl _
  rw [← hS0] at k5
  clear hS0 hle
  repeat (first | refine LOps.nil ?_ | refine andThen_normal ?_ | refine andThen_exit ?_ | refine andThen_ret ?_ | refine inBlock_normal ?_ | refine inBlock_ret ?_ | refine inBlock_here ?_ | refine inBlock_out rfl ?_ | refine LWp.seq ?_ | refine LWp.region ?_ | refine LWp.block ?_ | refine LWp.exit ?_ | refine LWp.ret ?_ | refine LWp.skip ?_ | refine LOps.valA ?_ | refine LOps.outA ?_ | refine LOps.whenA ?_ | refine LOps.pickA ?_ | refine LOps.storeA ?_)
  refine LOps.do (LDo.callX (new_L hP .sh l (by omega) _) (by rw [hP]; exact Try.func11)) rfl rfl rfl ?_
  rintro _ S10 ⟨bp, P, rfl, mp, h1, h2, h3⟩
  have np := NewO.of_new hle7 h1 h2 h3
  clear h1 h2 h3
  repeat (first | refine LOps.nil ?_ | refine andThen_normal ?_ | refine andThen_exit ?_ | refine andThen_ret ?_ | refine inBlock_normal ?_ | refine inBlock_ret ?_ | refine inBlock_here ?_ | refine inBlock_out rfl ?_ | refine LWp.seq ?_ | refine LWp.region ?_ | refine LWp.block ?_ | refine LWp.exit ?_ | refine LWp.ret ?_ | refine LWp.skip ?_ | refine LOps.valA ?_ | refine LOps.outA ?_ | refine LOps.whenA ?_ | refine LOps.pickA ?_ | refine LOps.storeA ?_)
  refine LOps.do (LDo.callX (new_L hP .sh l (by omega) S10) (by rw [hP]; exact Try.func11)) rfl rfl rfl ?_
  rintro _ S11 ⟨bq, Q, rfl, mq, h1, h2, h3⟩
  have nq := NewO.of_new np.le h1 h2 h3
  have tw := Two.of_new (S' := S11) mp h2 h3
  replace mp := mp.le h1
  replace np := np.le2 h1
  clear h1 h2 h3 hle7
  have q := np.le.box _ _ k5
  repeat (first | refine LOps.valH (LVal.load hD rfl rfl q rfl rfl) ?_ | refine LOps.nil ?_ | refine andThen_normal ?_ | refine andThen_exit ?_ | refine andThen_ret ?_ | refine inBlock_normal ?_ | refine inBlock_ret ?_ | refine inBlock_here ?_ | refine inBlock_out rfl ?_ | refine LWp.seq ?_ | refine LWp.region ?_ | refine LWp.block ?_ | refine LWp.exit ?_ | refine LWp.ret ?_ | refine LWp.skip ?_ | refine LOps.valA ?_ | refine LOps.outA ?_ | refine LOps.whenA ?_ | refine LOps.pickA ?_ | refine LOps.storeA ?_)
  refine LOps.do (LDo.callF (do_L hP (newP l) (by omega) (batO ws) bp P _ mp) (by rw [hP]; exact Try.func16)) rfl rfl rfl ?_
  rintro _ S12 ⟨rfl, P, m3, mv⟩
  obtain ⟨m4, tw2⟩ := Two.mv tw mq mv
  replace np := np.mv mv
  replace nq := nq.other np.le
  have tw := tw2
  clear mv mp mq q tw2
  have mp := m3
  have mq := m4
  clear m3 m4
  refine LOps.do (LDo.alloc hD rfl rfl rfl) rfl rfl rfl ?_
  rintro _ _ ⟨b8, hb8, rfl, rfl⟩
  refine LOps.storeA (b := b8) (off := 0) (cs := ansL noAns) (l := ansL (doA (newP l) (batO ws))) ?_
  obtain ⟨S1, h01, k8, np1, mp1, nq1, mq1⟩ := np.put2 mp nq mq hb8 (ansL noAns) (ansL (doA (newP l) (batO ws)))
  refine LOps.gen (fun S' => NewO S1 S' bp P ∧ OM S' bp P _ ∧ NewO S1 S' bq Q ∧ OM S' bq Q _) ⟨np1, mp1, nq1, mq1⟩ ?_
  replace k5 := h01.box _ _ k5
  clear np mp nq mq np1 mp1 nq1 mq1 h01 hb8
  rintro S13 ⟨np, mp, nq, mq⟩
  rw [eA] at k8
  refine LOps.slots [(1, .one (.sl .sh (ws.map wrL))), (5, ptr b5), (6, ptr bp), (7, ptr bq), (8, ptr b8)] ⟨rfl, rfl, rfl, rfl, rfl, trivial⟩ fun T9 => ?_
  have q8 := np.le.box _ _ k8
  repeat (first | (refine LWp.seq (LWp.cut 7 (fun T' S' => ∃ (Q' : LV) (T'' : Nat → TV), NewO S1 S' bp P ∧ OM S' bp P (doM (newP l) (batO ws)) ∧ NewO S1 S' bq Q' ∧ OM S' bq Q' (doM (newP l) (batO ws)) ∧ T' = over T'' [(5, ptr b5), (6, ptr bp), (7, ptr bq), (8, ptr b8)]) rfl ?_ ?_); rotate_left) | refine LOps.nil ?_ | refine andThen_normal ?_ | refine andThen_exit ?_ | refine andThen_ret ?_ | refine inBlock_normal ?_ | refine inBlock_ret ?_ | refine inBlock_here ?_ | refine inBlock_out rfl ?_ | refine LWp.seq ?_ | refine LWp.region ?_ | refine LWp.block ?_ | refine LWp.exit ?_ | refine LWp.ret ?_ | refine LWp.skip ?_ | refine LOps.valA ?_ | refine LOps.outA ?_ | refine LOps.whenA ?_ | refine LOps.pickA ?_ | refine LOps.storeA ?_)
  rotate_left
  · repeat (first | refine LOps.nil ?_ | refine andThen_normal ?_ | refine andThen_exit ?_ | refine andThen_ret ?_ | refine inBlock_normal ?_ | refine inBlock_ret ?_ | refine inBlock_here ?_ | refine inBlock_out rfl ?_ | refine LWp.seq ?_ | refine LWp.region ?_ | refine LWp.block ?_ | refine LWp.exit ?_ | refine LWp.ret ?_ | refine LWp.skip ?_ | refine LOps.valA ?_ | refine LOps.outA ?_ | refine LOps.whenA ?_ | refine LOps.pickA ?_ | refine LOps.storeA ?_)
    refine LWp.cond rfl (fun h => ?_) (fun h => ?_)
    · have h : (refusedO (batO ws) == 0) = true := h
      have h0 : refusedO (batO ws) = 0 := by simpa using h
      have hbad := batch_bad h0
      have eM := eM0 h0
      have hw8 := refused_long h0 rfl
      repeat (first | refine LOps.nil ?_ | refine andThen_normal ?_ | refine andThen_exit ?_ | refine andThen_ret ?_ | refine inBlock_normal ?_ | refine inBlock_ret ?_ | refine inBlock_here ?_ | refine inBlock_out rfl ?_ | refine LWp.seq ?_ | refine LWp.region ?_ | refine LWp.block ?_ | refine LWp.exit ?_ | refine LWp.ret ?_ | refine LWp.skip ?_ | refine LOps.valA ?_ | refine LOps.outA ?_ | refine LOps.whenA ?_ | refine LOps.pickA ?_ | refine LOps.storeA ?_)
      refine LWp.loop (fun k T S' => ∃ (T' : Nat → TV) (j : Nat) (Q' : LV), j ≤ ws.length ∧ k = ws.length - j ∧ NewO S1 S' bp P ∧ OM S' bp P (doM (newP l) (batO ws)) ∧ NewO S1 S' bq Q' ∧ OM S' bq Q' ((ws.take j).foldl stepW (newP l)) ∧ Two bp P bq Q' ∧
        T = over T' [(1, .one (.sl .sh (ws.map wrL))), (5, ptr b5), (6, ptr bp), (7, ptr bq), (8, ptr b8), (9, .one (iv (j : Nat)))]) ws.length ?_ ?_
      · exact ⟨_, 0, Q, by omega, by omega, np, mp, nq, mq, tw, holds.over ⟨rfl, rfl, rfl, rfl, rfl, rfl, trivial⟩⟩
      clear np mp nq mq tw q8
      rintro k T S14 ⟨T', j, Q', hj, rfl, np, mp, nq, mq, tw, rfl⟩
      have hlen := stepsW_length (ws.take j) (newP l)
      rw [List.length_take] at hlen
      repeat (first | refine LOps.nil ?_ | refine andThen_normal ?_ | refine andThen_exit ?_ | refine andThen_ret ?_ | refine inBlock_normal ?_ | refine inBlock_ret ?_ | refine inBlock_here ?_ | refine inBlock_out rfl ?_ | refine LWp.seq ?_ | refine LWp.region ?_ | refine LWp.block ?_ | refine LWp.exit ?_ | refine LWp.ret ?_ | refine LWp.skip ?_ | refine LOps.valA ?_ | refine LOps.outA ?_ | refine LOps.whenA ?_ | refine LOps.pickA ?_ | refine LOps.storeA ?_)
      refine LWp.cond rfl (fun h2 => ?_) (fun h2 => ?_)
      · have hlt : j < ws.length := by simp at h2; omega
        have hst := stepsW_take (l := newP l) hlt
        have hone := batch_one (hbad _ (List.getElem_mem hlt)) ((ws.take j).foldl stepW (newP l))
        rw [← hst] at hone
        repeat (first | (refine LWp.seq (LWp.cut 12 (fun T' S' => S' = S14 ∧ ∃ (T'' : Nat → TV), T' = over T'' [(1, .one (.sl .sh (ws.map wrL))), (5, ptr b5), (6, ptr bp), (7, ptr bq), (8, ptr b8), (9, .one (iv (j : Nat))), (10, .one (uv (oneO ws[j]).kind))]) rfl ?_ ?_); rotate_left) | refine LOps.nil ?_ | refine andThen_normal ?_ | refine andThen_exit ?_ | refine andThen_ret ?_ | refine inBlock_normal ?_ | refine inBlock_ret ?_ | refine inBlock_here ?_ | refine inBlock_out rfl ?_ | refine LWp.seq ?_ | refine LWp.region ?_ | refine LWp.block ?_ | refine LWp.exit ?_ | refine LWp.ret ?_ | refine LWp.skip ?_ | refine LOps.valA ?_ | refine LOps.outA ?_ | refine LOps.whenA ?_ | refine LOps.pickA ?_ | refine LOps.storeA ?_)
        rotate_left
        · repeat (first | refine LOps.nil ?_ | refine andThen_normal ?_ | refine andThen_exit ?_ | refine andThen_ret ?_ | refine inBlock_normal ?_ | refine inBlock_ret ?_ | refine inBlock_here ?_ | refine inBlock_out rfl ?_ | refine LWp.seq ?_ | refine LWp.region ?_ | refine LWp.block ?_ | refine LWp.exit ?_ | refine LWp.ret ?_ | refine LWp.skip ?_ | refine LOps.valA ?_ | refine LOps.outA ?_ | refine LOps.whenA ?_ | refine LOps.pickA ?_ | refine LOps.storeA ?_)
          refine LWp.cond rfl (fun hg => ?_) (fun hg => ?_)
          · have hg : ws[j].gone = true := hg
            repeat (first | refine LOps.nil ?_ | refine andThen_normal ?_ | refine andThen_exit ?_ | refine andThen_ret ?_ | refine inBlock_normal ?_ | refine inBlock_ret ?_ | refine inBlock_here ?_ | refine inBlock_out rfl ?_ | refine LWp.seq ?_ | refine LWp.region ?_ | refine LWp.block ?_ | refine LWp.exit ?_ | refine LWp.ret ?_ | refine LWp.skip ?_ | refine LOps.valA ?_ | refine LOps.outA ?_ | refine LOps.whenA ?_ | refine LOps.pickA ?_ | refine LOps.storeA ?_)
            exact ⟨rfl, _, holds.over ⟨rfl, rfl, rfl, rfl, rfl, rfl, by rw [oneO, hg]; rfl, trivial⟩⟩
          · have hg : ws[j].gone = false := hg
            repeat (first | refine LOps.nil ?_ | refine andThen_normal ?_ | refine andThen_exit ?_ | refine andThen_ret ?_ | refine inBlock_normal ?_ | refine inBlock_ret ?_ | refine inBlock_here ?_ | refine inBlock_out rfl ?_ | refine LWp.seq ?_ | refine LWp.region ?_ | refine LWp.block ?_ | refine LWp.exit ?_ | refine LWp.ret ?_ | refine LWp.skip ?_ | refine LOps.valA ?_ | refine LOps.outA ?_ | refine LOps.whenA ?_ | refine LOps.pickA ?_ | refine LOps.storeA ?_)
            exact ⟨rfl, _, holds.over ⟨rfl, rfl, rfl, rfl, rfl, rfl, by rw [oneO, hg]; rfl, trivial⟩⟩
        rintro _ S15 ⟨hS15, T15, rfl⟩
        subst hS15
        repeat (first | refine LOps.nil ?_ | refine andThen_normal ?_ | refine andThen_exit ?_ | refine andThen_ret ?_ | refine inBlock_normal ?_ | refine inBlock_ret ?_ | refine inBlock_here ?_ | refine inBlock_out rfl ?_ | refine LWp.seq ?_ | refine LWp.region ?_ | refine LWp.block ?_ | refine LWp.exit ?_ | refine LWp.ret ?_ | refine LWp.skip ?_ | refine LOps.valA ?_ | refine LOps.outA ?_ | refine LOps.whenA ?_ | refine LOps.pickA ?_ | refine LOps.storeA ?_)
        refine LWp.drawL [0, 1, 2, 3, 4, 5, 6, 7, 8, 9, 10, 11, 12, 13] (by rw [hP]; rfl) rfl ?_
        repeat (first | refine LRl.nil ?_ | refine LRl.valA ?_ | refine LRl.outA ?_ | refine LRl.whenA ?_ | refine LRl.pickA ?_)
        refine LRl.act (LDo.callF (do_L hP ((ws.take j).foldl stepW (newP l)) (by omega) (oneO ws[j]) bq Q' _ mq) (by rw [hP]; exact Try.func16)) rfl rfl rfl rfl (fun _ _ _ => .inr rfl) ?_
        rintro _ S16 ⟨rfl, Q2, mq2, mv⟩
        obtain ⟨mp2, tw2⟩ := Two.mv tw.symm mp mv
        replace nq := nq.mv mv
        replace np := np.other nq.le
        repeat (first | refine LRl.nil ?_ | refine LRl.valA ?_ | refine LRl.outA ?_ | refine LRl.whenA ?_ | refine LRl.pickA ?_)
        repeat (first | refine LOps.nil ?_ | refine andThen_normal ?_ | refine andThen_exit ?_ | refine andThen_ret ?_ | refine inBlock_normal ?_ | refine inBlock_ret ?_ | refine inBlock_here ?_ | refine inBlock_out rfl ?_ | refine LWp.seq ?_ | refine LWp.region ?_ | refine LWp.block ?_ | refine LWp.exit ?_ | refine LWp.ret ?_ | refine LWp.skip ?_ | refine LOps.valA ?_ | refine LOps.outA ?_ | refine LOps.whenA ?_ | refine LOps.pickA ?_ | refine LOps.storeA ?_)
        exact ⟨ws.length - (j + 1), by omega, _, j + 1, Q2, by omega, rfl, np, mp2, nq, by rw [← hone]; exact mq2, tw2.symm, holds.over ⟨rfl, rfl, rfl, rfl, rfl, rfl, trivial⟩⟩
      · have hge : j = ws.length := by simp at h2; omega
        subst hge
        rw [List.take_length] at mq
        repeat (first | refine LOps.nil ?_ | refine andThen_normal ?_ | refine andThen_exit ?_ | refine andThen_ret ?_ | refine inBlock_normal ?_ | refine inBlock_ret ?_ | refine inBlock_here ?_ | refine inBlock_out rfl ?_ | refine LWp.seq ?_ | refine LWp.region ?_ | refine LWp.block ?_ | refine LWp.exit ?_ | refine LWp.ret ?_ | refine LWp.skip ?_ | refine LOps.valA ?_ | refine LOps.outA ?_ | refine LOps.whenA ?_ | refine LOps.pickA ?_ | refine LOps.storeA ?_)
        exact ⟨Q', _, np, mp, nq, by rw [eM]; exact mq, holds.over ⟨rfl, rfl, rfl, rfl, trivial⟩⟩
    · have h : (refusedO (batO ws) == 0) = false := h
      have h0 : refusedO (batO ws) ≠ 0 := by simpa using h
      repeat (first | refine LOps.nil ?_ | refine andThen_normal ?_ | refine andThen_exit ?_ | refine andThen_ret ?_ | refine inBlock_normal ?_ | refine inBlock_ret ?_ | refine inBlock_here ?_ | refine inBlock_out rfl ?_ | refine LWp.seq ?_ | refine LWp.region ?_ | refine LWp.block ?_ | refine LWp.exit ?_ | refine LWp.ret ?_ | refine LWp.skip ?_ | refine LOps.valA ?_ | refine LOps.outA ?_ | refine LOps.whenA ?_ | refine LOps.pickA ?_ | refine LOps.storeA ?_)
      exact ⟨Q, _, np, mp, nq, by rw [eM1 h0]; exact mq, holds.over ⟨rfl, rfl, rfl, rfl, trivial⟩⟩
  clear np mp nq mq tw q8
  rintro _ S17 ⟨Q, T17, np, mp, nq, mq, rfl⟩
  generalize doM (newP l) (batO ws) = L at *
  have hLl : L.length ≤ 1000000 := by omega
  clear eM0 eM1 eA
  repeat (first | refine LOps.nil ?_ | refine andThen_normal ?_ | refine andThen_exit ?_ | refine andThen_ret ?_ | refine inBlock_normal ?_ | refine inBlock_ret ?_ | refine inBlock_here ?_ | refine inBlock_out rfl ?_ | refine LWp.seq ?_ | refine LWp.region ?_ | refine LWp.block ?_ | refine LWp.exit ?_ | refine LWp.ret ?_ | refine LWp.skip ?_ | refine LOps.valA ?_ | refine LOps.outA ?_ | refine LOps.whenA ?_ | refine LOps.pickA ?_ | refine LOps.storeA ?_)
  refine LOps.do (LDo.callX (all_L hP L hLl bp P S17 mp) (by rw [hP]; exact Try.func14)) rfl rfl rfl ?_
  rintro _ S18 ⟨Y, rfl, hY, hle18, hYn⟩
  have off1 : ∀ c, blockOf Y = some c → bp ≠ c ∧ blockOf P ≠ some c := fun c hc => mp.noBlock (hYn c hc)
  have off2 : ∀ c, blockOf Y = some c → bq ≠ c ∧ blockOf Q ≠ some c := fun c hc => mq.noBlock (hYn c hc)
  have off0 : ∀ c, blockOf Y = some c → S1.box c = none := fun c hc => by
    cases hq : S1.box c with
    | none => rfl
    | some cs => have := hYn c hc; rw [np.le.box _ _ hq] at this; cases this
  replace mp := mp.le hle18
  replace mq := mq.le hle18
  replace np := np.le2 hle18
  replace nq := nq.le2 hle18
  clear hYn hle18
  repeat (first | refine LOps.nil ?_ | refine andThen_normal ?_ | refine andThen_exit ?_ | refine andThen_ret ?_ | refine inBlock_normal ?_ | refine inBlock_ret ?_ | refine inBlock_here ?_ | refine inBlock_out rfl ?_ | refine LWp.seq ?_ | refine LWp.region ?_ | refine LWp.block ?_ | refine LWp.exit ?_ | refine LWp.ret ?_ | refine LWp.skip ?_ | refine LOps.valA ?_ | refine LOps.outA ?_ | refine LOps.whenA ?_ | refine LOps.pickA ?_ | refine LOps.storeA ?_)
  refine LOps.valH (LDo.toVal (LDo.callX (allV_L hP L hLl bp P S18 mp) (by rw [hP]; exact Try.func14))) ?_
  repeat (first | (refine LWp.seq (LWp.cut 17 (fun T' S' => ∃ (T'' : Nat → TV), NewO S1 S' bp P ∧ OM S' bp P L ∧ NewO S1 S' bq Q ∧ OM S' bq Q L ∧ T' = over T'' [(5, ptr b5), (6, ptr bp), (7, ptr bq), (8, ptr b8), (12, .one (.sl .sh (L.map prL)))]) rfl ?_ ?_); rotate_left) | refine LOps.nil ?_ | refine andThen_normal ?_ | refine andThen_exit ?_ | refine andThen_ret ?_ | refine inBlock_normal ?_ | refine inBlock_ret ?_ | refine inBlock_here ?_ | refine inBlock_out rfl ?_ | refine LWp.seq ?_ | refine LWp.region ?_ | refine LWp.block ?_ | refine LWp.exit ?_ | refine LWp.ret ?_ | refine LWp.skip ?_ | refine LOps.valA ?_ | refine LOps.outA ?_ | refine LOps.whenA ?_ | refine LOps.pickA ?_ | refine LOps.storeA ?_)
  rotate_left
  · repeat (first | refine LOps.nil ?_ | refine andThen_normal ?_ | refine andThen_exit ?_ | refine andThen_ret ?_ | refine inBlock_normal ?_ | refine inBlock_ret ?_ | refine inBlock_here ?_ | refine inBlock_out rfl ?_ | refine LWp.seq ?_ | refine LWp.region ?_ | refine LWp.block ?_ | refine LWp.exit ?_ | refine LWp.ret ?_ | refine LWp.skip ?_ | refine LOps.valA ?_ | refine LOps.outA ?_ | refine LOps.whenA ?_ | refine LOps.pickA ?_ | refine LOps.storeA ?_)
    refine LWp.loop (fun k T S' => ∃ (T' : Nat → TV) (j : Nat) (lp : List Pr), j ≤ L.length ∧ k = L.length - j ∧ lp.length = L.length ∧ SlAt prL 2 S' Y lp ∧ NewO S1 S' bp P ∧ OM S' bp P L ∧ NewO S1 S' bq Q ∧ OM S' bq Q L ∧
      T = over T' [(5, ptr b5), (6, ptr bp), (7, ptr bq), (8, ptr b8), (11, .one Y), (12, .one (.sl .sh (L.map prL))), (13, .one (iv (j : Nat)))]) L.length ?_ ?_
    · exact ⟨_, 0, L, by omega, by omega, rfl, hY, np, mp, nq, mq, holds.over ⟨rfl, rfl, rfl, rfl, rfl, rfl, rfl, trivial⟩⟩
    clear np mp nq mq hY
    rintro k T S19 ⟨T', j, lp, hj, rfl, hlp, hY, np, mp, nq, mq, rfl⟩
    cases hY with
    | nil =>
      have hL0 : j = L.length := by simp at hlp; omega
      subst hL0
      repeat (first | refine LWp.condF rfl ?_ | refine LOps.nil ?_ | refine andThen_normal ?_ | refine andThen_exit ?_ | refine andThen_ret ?_ | refine inBlock_normal ?_ | refine inBlock_ret ?_ | refine inBlock_here ?_ | refine inBlock_out rfl ?_ | refine LWp.seq ?_ | refine LWp.region ?_ | refine LWp.block ?_ | refine LWp.exit ?_ | refine LWp.ret ?_ | refine LWp.skip ?_ | refine LOps.valA ?_ | refine LOps.outA ?_ | refine LOps.whenA ?_ | refine LOps.pickA ?_ | refine LOps.storeA ?_)
      exact ⟨_, np, mp, nq, mq, holds.over ⟨rfl, rfl, rfl, rfl, rfl, trivial⟩⟩
    | row r c _ rest hr =>
      have hbr := hr.box
      have hcap := hr.cap
      have hlen := hr.len prL_len
      repeat (first | refine LOps.valH (LVal.lenR hD rfl rfl rfl rfl) ?_ | refine LOps.nil ?_ | refine andThen_normal ?_ | refine andThen_exit ?_ | refine andThen_ret ?_ | refine inBlock_normal ?_ | refine inBlock_ret ?_ | refine inBlock_here ?_ | refine inBlock_out rfl ?_ | refine LWp.seq ?_ | refine LWp.region ?_ | refine LWp.block ?_ | refine LWp.exit ?_ | refine LWp.ret ?_ | refine LWp.skip ?_ | refine LOps.valA ?_ | refine LOps.outA ?_ | refine LOps.whenA ?_ | refine LOps.pickA ?_ | refine LOps.storeA ?_)
      refine LWp.cond rfl (fun h2 => ?_) (fun h2 => ?_)
      · have h2 : decide ((j : Int) < (lp.length : Int)) = true := h2
        have hlt : j < lp.length := by rw [decide_eq_true_iff] at h2; omega
        have hoff : (0 + ((j : Nat) : Int).toNat * ti50.size) = j * 2 := by rw [Nat.zero_add, Int.toNat_natCast]; rfl
        repeat (first | refine LOps.valH (LVal.indexR hD rfl rfl rfl rfl rfl rfl (by omega) (by omega)) ?_ | refine LOps.nil ?_ | refine andThen_normal ?_ | refine andThen_exit ?_ | refine andThen_ret ?_ | refine inBlock_normal ?_ | refine inBlock_ret ?_ | refine inBlock_here ?_ | refine inBlock_out rfl ?_ | refine LWp.seq ?_ | refine LWp.region ?_ | refine LWp.block ?_ | refine LWp.exit ?_ | refine LWp.ret ?_ | refine LWp.skip ?_ | refine LOps.valA ?_ | refine LOps.outA ?_ | refine LOps.whenA ?_ | refine LOps.pickA ?_ | refine LOps.storeA ?_)
        refine LOps.do0 (LDo.store hD rfl rfl hbr rfl rfl rfl (by
          rw [Nat.ble_eq]
          show (0 + ((j : Nat) : Int).toNat * ti50.size + 0) + 1 ≤ _
          rw [hoff, hlen]; omega)) rfl rfl ?_
        rintro _ S' ⟨rfl, hq⟩
        have hset : splice (cellsR prL lp ++ rest) (j * 2) [sv wover] = cellsR prL (lp.set j ⟨wover, lp[j].val⟩) ++ rest := set_cells (x := (⟨wover, lp[j].val⟩ : Pr)) (A := []) (y := [sv lp[j].key]) (y' := [sv wover]) (B := [sv lp[j].val]) prL_len hlt rfl rfl rfl rfl
        replace hq := hq.trans (congrArg (S19.setBox r) ((congrArg (fun o => splice (cellsR prL lp ++ rest) o [sv wover]) (show _ = j * 2 from hoff)).trans hset))
        subst hq
        obtain ⟨e1, e2⟩ := off1 r rfl
        obtain ⟨e3, e4⟩ := off2 r rfl
        have hle2 := np.le.setBox (off0 r rfl) (cellsR prL (lp.set j ⟨wover, lp[j].val⟩) ++ rest)
        have hfin := SlAt.row (f := prL) (z := 2) (S := S19.setBox r (cellsR prL (lp.set j ⟨wover, lp[j].val⟩) ++ rest)) r c (lp.set j ⟨wover, lp[j].val⟩) rest ⟨box_set _ _ _, by rw [List.length_set]; exact hr.room, by rw [List.length_set]; exact hr.cap⟩
        rw [List.length_set] at hfin
        repeat (first | refine LOps.nil ?_ | refine andThen_normal ?_ | refine andThen_exit ?_ | refine andThen_ret ?_ | refine inBlock_normal ?_ | refine inBlock_ret ?_ | refine inBlock_here ?_ | refine inBlock_out rfl ?_ | refine LWp.seq ?_ | refine LWp.region ?_ | refine LWp.block ?_ | refine LWp.exit ?_ | refine LWp.ret ?_ | refine LWp.skip ?_ | refine LOps.valA ?_ | refine LOps.outA ?_ | refine LOps.whenA ?_ | refine LOps.pickA ?_ | refine LOps.storeA ?_)
        exact ⟨L.length - (j + 1), by omega, _, j + 1, lp.set j ⟨wover, lp[j].val⟩, by omega, rfl, by rw [List.length_set]; exact hlp, hfin, np.other hle2, mp.setOther e1 e2 _, nq.other hle2, mq.setOther e3 e4 _, holds.over ⟨rfl, rfl, rfl, rfl, rfl, rfl, rfl, trivial⟩⟩
      · repeat (first | refine LOps.nil ?_ | refine andThen_normal ?_ | refine andThen_exit ?_ | refine andThen_ret ?_ | refine inBlock_normal ?_ | refine inBlock_ret ?_ | refine inBlock_here ?_ | refine inBlock_out rfl ?_ | refine LWp.seq ?_ | refine LWp.region ?_ | refine LWp.block ?_ | refine LWp.exit ?_ | refine LWp.ret ?_ | refine LWp.skip ?_ | refine LOps.valA ?_ | refine LOps.outA ?_ | refine LOps.whenA ?_ | refine LOps.pickA ?_ | refine LOps.storeA ?_)
        exact ⟨_, np, mp, nq, mq, holds.over ⟨rfl, rfl, rfl, rfl, rfl, trivial⟩⟩
  clear np mp nq mq hY off0 off1 off2
  rintro _ S20 ⟨T20, np, mp, nq, mq, rfl⟩
  have q5 := np.le.box _ _ k5
  have q8 := np.le.box _ _ k8
  have hsame := sameT_F hP (rfl : G.P = G.P) L hLl
  repeat (first | refine LOps.nil ?_ | refine andThen_normal ?_ | refine andThen_exit ?_ | refine andThen_ret ?_ | refine inBlock_normal ?_ | refine inBlock_ret ?_ | refine inBlock_here ?_ | refine inBlock_out rfl ?_ | refine LWp.seq ?_ | refine LWp.region ?_ | refine LWp.block ?_ | refine LWp.exit ?_ | refine LWp.ret ?_ | refine LWp.skip ?_ | refine LOps.valA ?_ | refine LOps.outA ?_ | refine LOps.whenA ?_ | refine LOps.pickA ?_ | refine LOps.storeA ?_)
  refine LWp.drawL [0, 1, 2, 3, 4, 5, 6, 7, 8, 9, 10, 11, 12, 13, 14, 15, 16, 17, 18, 19, 20] (by rw [hP]; rfl) rfl ?_
  repeat (first | refine LRl.val (fun _ hS => LVal.load hD rfl rfl (hS.box _ _ q8 id) rfl rfl) rfl rfl rfl ?_ | refine LRl.val (fun _ hS => LVal.load hD rfl rfl (hS.box _ _ q5 id) rfl rfl) rfl rfl rfl ?_ | refine LRl.val (fun _ _ => LVal.call rfl rfl (by rw [hP]; exact Try.func18) rfl (by decide) cr) rfl rfl rfl ?_ | refine LRl.nil ?_ | refine LRl.valA ?_ | refine LRl.outA ?_ | refine LRl.whenA ?_ | refine LRl.pickA ?_)
  refine LRl.val (fun _ _ => LVal.to (LVal.eqAgg hD rfl rfl rfl rfl rfl (ec ()) rfl) (r' := .one (bv true)) (by exact congrArg (fun b => TV.one (bv b)) (ansB_eq ⟨refusedO (batO ws), false, noBytes, noBytes⟩))) rfl rfl rfl ?_
  repeat (first | refine LRl.valW ?_ | refine LRl.val (fun S' hS => LDo.toVal (LDo.callX (allV_L hP L hLl bq Q S' (mq.keepB fun c cs hc => hS.box c cs hc id)) (by rw [hP]; exact Try.func14))) rfl rfl rfl ?_ | refine LRl.val (fun S' hS => LDo.toVal (LDo.callX (allV_L hP L hLl bp P S' (mp.keepB fun c cs hc => hS.box c cs hc id)) (by rw [hP]; exact Try.func14))) rfl rfl rfl ?_ | refine LRl.val (fun _ _ => LVal.call rfl rfl (by rw [hP]; exact Try.func13) rfl (by decide) hsame) rfl rfl rfl ?_ | refine LRl.val (fun _ _ => LVal.call rfl rfl (by rw [hP]; exact Try.func10) rfl (by decide) cw) rfl rfl rfl ?_ | refine LRl.nil ?_ | refine LRl.valA ?_ | refine LRl.outA ?_ | refine LRl.whenA ?_ | refine LRl.pickA ?_)
  repeat (first | refine LOps.nil ?_ | refine andThen_normal ?_ | refine andThen_exit ?_ | refine andThen_ret ?_ | refine inBlock_normal ?_ | refine inBlock_ret ?_ | refine inBlock_here ?_ | refine inBlock_out rfl ?_ | refine LWp.seq ?_ | refine LWp.region ?_ | refine LWp.block ?_ | refine LWp.exit ?_ | refine LWp.ret ?_ | refine LWp.skip ?_ | refine LOps.valA ?_ | refine LOps.outA ?_ | refine LOps.whenA ?_ | refine LOps.pickA ?_ | refine LOps.storeA ?_)
  exact ⟨_, LRes.one rfl, rfl⟩
end Go.Proofs.Ytndcdmmmfplbbaa.LF

namespace Go.Proofs.Ytndcdmmmfplbbaa
open Go.RowKit LF
theorem omapBatch_walk (W : World) (v0 : Value) (l0 : List LV) (y0 : Typed LF.D 22 l0) (g0 : RepT (G0 Try.prog W) W (allCells W) (argTV ti22 l0) v0) (v1 : Value) (l1 : List LV) (y1 : Typed LF.D 37 l1) (g1 : RepT (G0 Try.prog W) W (allCells W) (argTV ti37 l1) v1) :
    Calls Try.prog 6 #[v0, v1] W fun e W' => e = .returned (.bool true) ∧ Below W.heap.size W W' := by
  obtain ⟨l, rfl⟩ := typed_prs y0
  obtain ⟨ws, rfl⟩ := typed_ws y1
  exact law_calls (fun G S h => batch_L h l ws S) (.cons (vs := [v1]) g0 (.cons (vs := []) g1 .nil))
end Go.Proofs.Ytndcdmmmfplbbaa
