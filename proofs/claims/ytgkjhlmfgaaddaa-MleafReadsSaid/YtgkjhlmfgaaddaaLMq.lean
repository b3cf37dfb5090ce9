/- Leaves: the document's Right. -/
import Derived.Test.YtgkjhlmfgaaddaaLMp
import Derived.Test.YtgkjhlmfgaaddaaLMr
set_option linter.unusedVariables false
set_option linter.unusedSimpArgs false
namespace Go.Proofs.Ytgkjhlmfgaaddaa.LF
open Go.RowKit
set_option linter.unusedVariables false

theorem neqNo (s : SlotV) : (!((((s.m.s == 0) && ((s.m.c == 0) && true)) && (decide (s.rest = noBytes) && (decide (s.value = noBytes) && ((s.deep == false) && (((s.ls == 0) && ((s.lg == 0) && true)) && true))))))) = !isNo s := congrArg (!·) (isNo_cells s).symm

set_option maxHeartbeats 16000000 in
theorem refRight_L {G : Ctx} (hP : G.P = Try.prog) (l : LeafV) (hl : l.ok) : LFun G 20 [.agg (leafL l)] (.one (bv (rightL l))) := LFun.of fun S => by
  have hD : TabOK G.P D := by rw [hP]; exact hD0
  have ea : EqTy G.P D 40 := by rw [hP]; exact eqRMark
  have eb : EqTy G.P D 42 := by rw [hP]; exact eqRSlot
  have h2 := refRight_M hP l.high hl.high
  have c1 := of_F hP l.p hl.p
  refine LCalls.enter (fn := Try.f20) (by rw [hP]; exact Try.func20) rfl rfl ?_
  repeat (first | refine LOps.nil ?_ | refine andThen_normal ?_ | refine andThen_exit ?_ | refine andThen_ret ?_ | refine inBlock_normal ?_ | refine inBlock_ret ?_ | refine inBlock_here ?_ | refine inBlock_out rfl ?_ | refine LWp.seq ?_ | refine LWp.region ?_ | refine LWp.block ?_ | refine LWp.exit ?_ | refine LWp.ret ?_ | refine LWp.skip ?_ | refine LOps.valA ?_ | refine LOps.outA ?_ | refine LOps.whenA ?_ | refine LOps.pickA ?_ | refine LOps.storeA ?_)
  have hle := LS.le.refl S
  refine LOps.do (LDo.box rfl rfl) rfl rfl rfl ?_
  rintro _ _ ⟨b1, hb1, rfl, rfl⟩
  have s1 := hle.none hb1
  refine LOps.gen (fun S' => S.le S' ∧ S'.box b1 = some (leafL l)) ⟨hle.newBox hb1 _, box_new _ _ _⟩ ?_
  clear hle hb1 
  rintro S1 ⟨hle, k1⟩
  cases hr : rt (slots l.p) with
  | false =>
    have hr2 : ¬ Rt (slots l.p) := fun h => by rw [rt_yes h] at hr; cases hr
    rw [ofR_no hr2] at c1
    have e : rightL l = false := rightL_head (by unfold headR; rw [hr]; rfl)
    repeat (first | refine LOps.valH (LVal.load hD rfl rfl k1 rfl (rdPerm l)) ?_ | refine LOps.valG (LVal.call rfl rfl (by rw [hP]; exact Try.func50) rfl (by decide) c1) rfl rfl rfl ?_ | refine LOps.nil ?_ | refine andThen_normal ?_ | refine andThen_exit ?_ | refine andThen_ret ?_ | refine inBlock_normal ?_ | refine inBlock_ret ?_ | refine inBlock_here ?_ | refine inBlock_out rfl ?_ | refine LWp.seq ?_ | refine LWp.region ?_ | refine LWp.block ?_ | refine LWp.exit ?_ | refine LWp.ret ?_ | refine LWp.skip ?_ | refine LOps.valA ?_ | refine LOps.outA ?_ | refine LOps.whenA ?_ | refine LOps.pickA ?_ | refine LOps.storeA ?_)
    skip
    refine LOps.do (LDo.alloc hD rfl rfl rfl) rfl rfl rfl ?_
    rintro _ _ ⟨b3, hb3, rfl, rfl⟩
    have n1_3 := fresh_ne hb3 k1
    have m3_1 := n1_3.symm
    have s3 := hle.none hb3
    refine LOps.gen (fun S' => S.le S' ∧ S'.box b1 = some (leafL l) ∧ S'.box b3 = some ([.sl .nil [], .sl .nil []])) ⟨hle.newBox hb3 _, (box_new_ne _ _ n1_3).trans k1, box_new _ _ _⟩ ?_
    clear hle hb3 k1
    rintro S3 ⟨hle, k1, k3⟩
    repeat (first | refine LWp.condT rfl ?_ | refine LOps.valH (LVal.to (LVal.binOp hD rfl rfl rfl rfl) (r' := .one (.v (.bool true))) (congrArg (fun b => TV.one (.v (.bool b))) (by first | exact decide_eq_true (by omega) | (rw [beq_iff_eq]; omega) | (rw [bne_iff_ne]; omega)))) ?_ | refine LOps.valH (LVal.to (LVal.binOp hD rfl rfl rfl rfl) (r' := .one (.v (.bool false))) (congrArg (fun b => TV.one (.v (.bool b))) (by first | exact decide_eq_false (by omega) | (rw [beq_eq_false_iff_ne]; omega) | (rw [bne_eq_false_iff_eq]; omega)))) ?_ | refine LOps.valW ?_ | refine LOps.nil ?_ | refine andThen_normal ?_ | refine andThen_exit ?_ | refine andThen_ret ?_ | refine inBlock_normal ?_ | refine inBlock_ret ?_ | refine inBlock_here ?_ | refine inBlock_out rfl ?_ | refine LWp.seq ?_ | refine LWp.region ?_ | refine LWp.block ?_ | refine LWp.exit ?_ | refine LWp.ret ?_ | refine LWp.skip ?_ | refine LOps.valA ?_ | refine LOps.outA ?_ | refine LOps.whenA ?_ | refine LOps.pickA ?_ | refine LOps.storeA ?_)
    refine ⟨_, LRes.one rfl, ?_, hle.setBox s3 _⟩
    rw [e]; rfl
  | true =>
  have hr2 := (rt_iff _).1 hr
  rw [ofR_yes hr2] at c1
  have hn := rt_le hr
  obtain ⟨n, hnn⟩ : ∃ n, n = l.p % 16 := ⟨_, rfl⟩
  rw [← hnn] at c1 hn
  obtain ⟨U, hU⟩ : ∃ U, U = (slots l.p).take n := ⟨_, rfl⟩
  obtain ⟨F, hF⟩ : ∃ F, F = (slots l.p).drop n := ⟨_, rfl⟩
  have hlen := slots_length l.p
  have hUl : U.length = n := by rw [hU, List.length_take, hlen]; omega
  have hFl : F.length = 15 - n := by rw [hF, List.length_drop, hlen]
  have hUk : ∀ k, k < n → U[k]? = some (nib l.p k) := fun k hk => by rw [hU, List.getElem?_take, if_pos hk, slots_get l.p k (by omega)]
  have hFk : ∀ k, n + k < 15 → F[k]? = some (nib l.p (n + k)) := fun k hk => by rw [hF, List.getElem?_drop, slots_get l.p _ hk]
  rw [← hU, ← hF] at c1
  clear hU hF
  repeat (first | refine LOps.valH (LVal.load hD rfl rfl k1 rfl (rdPerm l)) ?_ | refine LOps.valG (LVal.call rfl rfl (by rw [hP]; exact Try.func50) rfl (by decide) c1) rfl rfl rfl ?_ | refine LOps.nil ?_ | refine andThen_normal ?_ | refine andThen_exit ?_ | refine andThen_ret ?_ | refine inBlock_normal ?_ | refine inBlock_ret ?_ | refine inBlock_here ?_ | refine inBlock_out rfl ?_ | refine LWp.seq ?_ | refine LWp.region ?_ | refine LWp.block ?_ | refine LWp.exit ?_ | refine LWp.ret ?_ | refine LWp.skip ?_ | refine LOps.valA ?_ | refine LOps.outA ?_ | refine LOps.whenA ?_ | refine LOps.pickA ?_ | refine LOps.storeA ?_)
  skip
  refine LOps.do (LDo.alloc hD rfl rfl rfl) rfl rfl rfl ?_
  rintro _ _ ⟨b3, hb3, rfl, rfl⟩
  have n1_3 := fresh_ne hb3 k1
  have m3_1 := n1_3.symm
  have s3 := hle.none hb3
  refine LOps.gen (fun S' => S.le S' ∧ S'.box b1 = some (leafL l) ∧ S'.box b3 = some ([.sl .nil [], .sl .nil []])) ⟨hle.newBox hb3 _, (box_new_ne _ _ n1_3).trans k1, box_new _ _ _⟩ ?_
  clear hle hb3 k1
  rintro S3 ⟨hle, k1, k3⟩
  refine LOps.storeA (b := b3) (off := 0) (cs := [.sl .nil [], .sl .nil []]) (l := [.sl .sh (iList U), .sl .sh (iList F)]) ?_
  refine LOps.gen (fun S' => S.le S' ∧ S'.box b1 = some (leafL l) ∧ S'.box b3 = some ([.sl .sh (iList U), .sl .sh (iList F)])) ⟨hle.setBox s3 _, (box_set_ne _ _ n1_3).trans k1, (box_set _ _ _).trans (congrArg some (rfl))⟩ ?_
  clear hle k1 k3
  rintro Ss ⟨hle, k1, k3⟩
  repeat (first | (refine LWp.seq (LWp.cut 2 (fun T' S' => headR l = true ∧ S' = Ss ∧ ∃ T'', T' = over T'' [(1, ptr b1), (3, ptr b3)]) rfl ?_ ?_); rotate_left) | refine LOps.nil ?_ | refine andThen_normal ?_ | refine andThen_exit ?_ | refine andThen_ret ?_ | refine inBlock_normal ?_ | refine inBlock_ret ?_ | refine inBlock_here ?_ | refine inBlock_out rfl ?_ | refine LWp.seq ?_ | refine LWp.region ?_ | refine LWp.block ?_ | refine LWp.exit ?_ | refine LWp.ret ?_ | refine LWp.skip ?_ | refine LOps.valA ?_ | refine LOps.outA ?_ | refine LOps.whenA ?_ | refine LOps.pickA ?_ | refine LOps.storeA ?_)
  rotate_left
  · cases hb : l.bounded with
    | true =>
      cases hm : rightM l.high with
      | false =>
        rw [hm] at h2
        have e : rightL l = false := rightL_head (by unfold headR; rw [hr, hb, hm]; rfl)
        repeat (first | refine LOps.valH (LVal.call rfl rfl (by rw [hP]; exact Try.func31) rfl (by decide) (h2)) ?_ | refine LOps.valH (LVal.load hD rfl rfl k1 rfl (rdBoundedB l hb)) ?_ | refine LOps.valH (LVal.load hD rfl rfl k1 rfl (rdHigh l)) ?_ | refine LWp.condT rfl ?_ | refine LOps.valH (LVal.to (LVal.binOp hD rfl rfl rfl rfl) (r' := .one (.v (.bool true))) (congrArg (fun b => TV.one (.v (.bool b))) (by first | exact decide_eq_true (by omega) | (rw [beq_iff_eq]; omega) | (rw [bne_iff_ne]; omega)))) ?_ | refine LOps.valH (LVal.to (LVal.binOp hD rfl rfl rfl rfl) (r' := .one (.v (.bool false))) (congrArg (fun b => TV.one (.v (.bool b))) (by first | exact decide_eq_false (by omega) | (rw [beq_eq_false_iff_ne]; omega) | (rw [bne_eq_false_iff_eq]; omega)))) ?_ | refine LOps.valW ?_ | refine LOps.nil ?_ | refine andThen_normal ?_ | refine andThen_exit ?_ | refine andThen_ret ?_ | refine inBlock_normal ?_ | refine inBlock_ret ?_ | refine inBlock_here ?_ | refine inBlock_out rfl ?_ | refine LWp.seq ?_ | refine LWp.region ?_ | refine LWp.block ?_ | refine LWp.exit ?_ | refine LWp.ret ?_ | refine LWp.skip ?_ | refine LOps.val (LVal.call rfl rfl (by rw [hP]; exact Try.func31) rfl (by decide) (h2)) rfl rfl rfl ?_ | refine LOps.whenC (LVal.call rfl rfl (by rw [hP]; exact Try.func31) rfl (by decide) (h2)) ?_ | refine LOps.valA ?_ | refine LOps.outA ?_ | refine LOps.whenA ?_ | refine LOps.pickA ?_ | refine LOps.storeA ?_)
        refine ⟨_, LRes.one rfl, ?_, hle⟩
        rw [e]; rfl
      | true =>
        rw [hm] at h2
        repeat (first | refine LOps.valH (LVal.call rfl rfl (by rw [hP]; exact Try.func31) rfl (by decide) (h2)) ?_ | refine LOps.valH (LVal.load hD rfl rfl k1 rfl (rdBoundedB l hb)) ?_ | refine LOps.valH (LVal.load hD rfl rfl k1 rfl (rdHigh l)) ?_ | refine LWp.condF rfl ?_ | refine LOps.valH (LVal.to (LVal.binOp hD rfl rfl rfl rfl) (r' := .one (.v (.bool true))) (congrArg (fun b => TV.one (.v (.bool b))) (by first | exact decide_eq_true (by omega) | (rw [beq_iff_eq]; omega) | (rw [bne_iff_ne]; omega)))) ?_ | refine LOps.valH (LVal.to (LVal.binOp hD rfl rfl rfl rfl) (r' := .one (.v (.bool false))) (congrArg (fun b => TV.one (.v (.bool b))) (by first | exact decide_eq_false (by omega) | (rw [beq_eq_false_iff_ne]; omega) | (rw [bne_eq_false_iff_eq]; omega)))) ?_ | refine LOps.valW ?_ | refine LOps.nil ?_ | refine andThen_normal ?_ | refine andThen_exit ?_ | refine andThen_ret ?_ | refine inBlock_normal ?_ | refine inBlock_ret ?_ | refine inBlock_here ?_ | refine inBlock_out rfl ?_ | refine LWp.seq ?_ | refine LWp.region ?_ | refine LWp.block ?_ | refine LWp.exit ?_ | refine LWp.ret ?_ | refine LWp.skip ?_ | refine LOps.val (LVal.call rfl rfl (by rw [hP]; exact Try.func31) rfl (by decide) (h2)) rfl rfl rfl ?_ | refine LOps.whenC (LVal.call rfl rfl (by rw [hP]; exact Try.func31) rfl (by decide) (h2)) ?_ | refine LOps.valA ?_ | refine LOps.outA ?_ | refine LOps.whenA ?_ | refine LOps.pickA ?_ | refine LOps.storeA ?_)
        exact ⟨by unfold headR; rw [hr, hb, hm]; rfl, rfl, _, holds.over ⟨rfl, rfl, trivial⟩⟩
    | false =>
      repeat (first | refine LOps.valH (LVal.load hD rfl rfl k1 rfl (rdBoundedB l hb)) ?_ | refine LOps.valH (LVal.load hD rfl rfl k1 rfl (rdHigh l)) ?_ | refine LOps.valH (LVal.to (LVal.binOp hD rfl rfl rfl rfl) (r' := .one (.v (.bool true))) (congrArg (fun b => TV.one (.v (.bool b))) (by first | exact decide_eq_true (by omega) | (rw [beq_iff_eq]; omega) | (rw [bne_iff_ne]; omega)))) ?_ | refine LOps.valH (LVal.to (LVal.binOp hD rfl rfl rfl rfl) (r' := .one (.v (.bool false))) (congrArg (fun b => TV.one (.v (.bool b))) (by first | exact decide_eq_false (by omega) | (rw [beq_eq_false_iff_ne]; omega) | (rw [bne_eq_false_iff_eq]; omega)))) ?_ | refine LOps.valW ?_ | refine LOps.nil ?_ | refine andThen_normal ?_ | refine andThen_exit ?_ | refine andThen_ret ?_ | refine inBlock_normal ?_ | refine inBlock_ret ?_ | refine inBlock_here ?_ | refine inBlock_out rfl ?_ | refine LWp.seq ?_ | refine LWp.region ?_ | refine LWp.block ?_ | refine LWp.exit ?_ | refine LWp.ret ?_ | refine LWp.skip ?_ | refine LOps.valA ?_ | refine LOps.outA ?_ | refine LOps.whenA ?_ | refine LOps.pickA ?_ | refine LOps.storeA ?_)
      refine LWp.cond rfl (fun h => ?_) (fun h => ?_)
      · have h : (!((l.high.s == 0) && ((l.high.c == 0) && true))) = true := h
        rw [Bool.and_true, Bool.not_eq_true'] at h
        have h : (decide (l.high.s = 0) && decide (l.high.c = 0)) = false := h
        have e : rightL l = false := rightL_head (by unfold headR; rw [hr, hb]; simp only [Bool.true_and]; exact h)
        repeat (first | refine LOps.nil ?_ | refine andThen_normal ?_ | refine andThen_exit ?_ | refine andThen_ret ?_ | refine inBlock_normal ?_ | refine inBlock_ret ?_ | refine inBlock_here ?_ | refine inBlock_out rfl ?_ | refine LWp.seq ?_ | refine LWp.region ?_ | refine LWp.block ?_ | refine LWp.exit ?_ | refine LWp.ret ?_ | refine LWp.skip ?_ | refine LOps.valA ?_ | refine LOps.outA ?_ | refine LOps.whenA ?_ | refine LOps.pickA ?_ | refine LOps.storeA ?_)
        refine ⟨_, LRes.one rfl, ?_, hle⟩
        rw [e]; rfl
      · have h : (!((l.high.s == 0) && ((l.high.c == 0) && true))) = false := h
        rw [Bool.and_true, Bool.not_eq_false'] at h
        have h : (decide (l.high.s = 0) && decide (l.high.c = 0)) = true := h
        repeat (first | refine LOps.nil ?_ | refine andThen_normal ?_ | refine andThen_exit ?_ | refine andThen_ret ?_ | refine inBlock_normal ?_ | refine inBlock_ret ?_ | refine inBlock_here ?_ | refine inBlock_out rfl ?_ | refine LWp.seq ?_ | refine LWp.region ?_ | refine LWp.block ?_ | refine LWp.exit ?_ | refine LWp.ret ?_ | refine LWp.skip ?_ | refine LOps.valA ?_ | refine LOps.outA ?_ | refine LOps.whenA ?_ | refine LOps.pickA ?_ | refine LOps.storeA ?_)
        exact ⟨by unfold headR; rw [hr, hb]; simp only [Bool.true_and]; exact h, rfl, _, holds.over ⟨rfl, rfl, trivial⟩⟩
  rintro _ S3 ⟨hhead, rfl, T2, rfl⟩
  repeat (first | refine LOps.nil ?_ | refine andThen_normal ?_ | refine andThen_exit ?_ | refine andThen_ret ?_ | refine inBlock_normal ?_ | refine inBlock_ret ?_ | refine inBlock_here ?_ | refine inBlock_out rfl ?_ | refine LWp.seq ?_ | refine LWp.region ?_ | refine LWp.block ?_ | refine LWp.exit ?_ | refine LWp.ret ?_ | refine LWp.skip ?_ | refine LOps.valA ?_ | refine LOps.outA ?_ | refine LOps.whenA ?_ | refine LOps.pickA ?_ | refine LOps.storeA ?_)
  refine LWp.loop (fun m T S' => ∃ (T' : Nat → TV) (j : Nat), j ≤ 15 - n ∧ m = 15 - n - j ∧ S' = S3 ∧ (∀ k, k < j → rankR l (n + k) = true) ∧ T = over T' [(1, ptr b1), (3, ptr b3), (5, .one (iv (j : Nat)))]) (15 - n) ?_ ?_
  · exact ⟨_, 0, by omega, rfl, rfl, fun k hk => by omega, holds.over ⟨rfl, rfl, rfl, trivial⟩⟩
  rintro m T S4 ⟨T', j, hj, rfl, rfl, hall, rfl⟩
  repeat (first | refine LOps.nil ?_ | refine andThen_normal ?_ | refine andThen_exit ?_ | refine andThen_ret ?_ | refine inBlock_normal ?_ | refine inBlock_ret ?_ | refine inBlock_here ?_ | refine inBlock_out rfl ?_ | refine LWp.seq ?_ | refine LWp.region ?_ | refine LWp.block ?_ | refine LWp.exit ?_ | refine LWp.ret ?_ | refine LWp.skip ?_ | refine LOps.valA ?_ | refine LOps.outA ?_ | refine LOps.whenA ?_ | refine LOps.pickA ?_ | refine LOps.storeA ?_)
  refine LWp.cond rfl (fun h => ?_) (fun h => ?_)
  · have hlt : j < 15 - n := by
      have h : decide ((j : Int) < (((iList F).length : Nat) : Int)) = true := h
      rw [decide_eq_true_iff, List.length_map] at h; omega
    clear h
    have hFj := hFk j (by omega)
    have hnb := nib_low hr (show n + j < 15 by omega)
    obtain ⟨s, hs⟩ : ∃ s, s = l.rank (n + j) := ⟨_, rfl⟩
    have e : rankR l (n + j) = isNo s := by unfold rankR; rw [if_neg (by omega), ← hs]
    repeat (first | refine LOps.val (LVal.indexLit hD rfl rfl rfl (n := j) rfl rfl rfl rfl hFj rfl) rfl rfl rfl ?_ | refine LOps.valH (LVal.indexP hD rfl rfl rfl rfl rfl rfl hnb) ?_ | refine LOps.valH (LVal.to (LVal.load hD rfl rfl k1 rfl (rdSlot l hnb)) (congrArg (fun z => TV.agg (slotL z)) hs.symm)) ?_ | refine LOps.nil ?_ | refine andThen_normal ?_ | refine andThen_exit ?_ | refine andThen_ret ?_ | refine inBlock_normal ?_ | refine inBlock_ret ?_ | refine inBlock_here ?_ | refine inBlock_out rfl ?_ | refine LWp.seq ?_ | refine LWp.region ?_ | refine LWp.block ?_ | refine LWp.exit ?_ | refine LWp.ret ?_ | refine LWp.skip ?_ | refine LOps.valA ?_ | refine LOps.outA ?_ | refine LOps.whenA ?_ | refine LOps.pickA ?_ | refine LOps.storeA ?_)
    refine LWp.cond rfl (fun h => ?_) (fun h => ?_)
    · have h : (!isNo s) = true := by rw [isNo_cells]; exact h
      rw [Bool.not_eq_true'] at h
      have e2 : rightL l = false := rightL_no (show n + j < 15 by omega) (by rw [e]; exact h)
      repeat (first | refine LOps.nil ?_ | refine andThen_normal ?_ | refine andThen_exit ?_ | refine andThen_ret ?_ | refine inBlock_normal ?_ | refine inBlock_ret ?_ | refine inBlock_here ?_ | refine inBlock_out rfl ?_ | refine LWp.seq ?_ | refine LWp.region ?_ | refine LWp.block ?_ | refine LWp.exit ?_ | refine LWp.ret ?_ | refine LWp.skip ?_ | refine LOps.valA ?_ | refine LOps.outA ?_ | refine LOps.whenA ?_ | refine LOps.pickA ?_ | refine LOps.storeA ?_)
      refine ⟨_, LRes.one rfl, ?_, hle⟩
      rw [e2]; rfl
    · have h : (!isNo s) = false := by rw [isNo_cells]; exact h
      rw [Bool.not_eq_false'] at h
      repeat (first | refine LOps.nil ?_ | refine andThen_normal ?_ | refine andThen_exit ?_ | refine andThen_ret ?_ | refine inBlock_normal ?_ | refine inBlock_ret ?_ | refine inBlock_here ?_ | refine inBlock_out rfl ?_ | refine LWp.seq ?_ | refine LWp.region ?_ | refine LWp.block ?_ | refine LWp.exit ?_ | refine LWp.ret ?_ | refine LWp.skip ?_ | refine LOps.valA ?_ | refine LOps.outA ?_ | refine LOps.whenA ?_ | refine LOps.pickA ?_ | refine LOps.storeA ?_)
      exact ⟨15 - n - (j + 1), by omega, _, j + 1, by omega, rfl, rfl, fun k hk => (by
        rcases Nat.lt_or_ge k j with h2 | h2
        · exact hall k h2
        · obtain rfl : k = j := by omega
          rw [e]; exact h), holds.over ⟨rfl, rfl, rfl, trivial⟩⟩
  have hge : j = 15 - n := by
    have h : decide ((j : Int) < (((iList F).length : Nat) : Int)) = false := h
    rw [decide_eq_false_iff_not, List.length_map] at h; omega
  subst hge
  clear h
  repeat (first | refine LOps.nil ?_ | refine andThen_normal ?_ | refine andThen_exit ?_ | refine andThen_ret ?_ | refine inBlock_normal ?_ | refine inBlock_ret ?_ | refine inBlock_here ?_ | refine inBlock_out rfl ?_ | refine LWp.seq ?_ | refine LWp.region ?_ | refine LWp.block ?_ | refine LWp.exit ?_ | refine LWp.ret ?_ | refine LWp.skip ?_ | refine LOps.valA ?_ | refine LOps.outA ?_ | refine LOps.whenA ?_ | refine LOps.pickA ?_ | refine LOps.storeA ?_)
  refine LWp.loop (fun m T S' => ∃ (T' : Nat → TV) (j : Nat), j ≤ n ∧ m = n - j ∧ S.le S' ∧ S'.box b1 = some (leafL l) ∧ S'.box b3 = some [.sl .sh (iList U), .sl .sh (iList F)] ∧ (∀ k, k < j → rankR l k = true) ∧ T = over T' [(1, ptr b1), (3, ptr b3), (6, .one (iv (j : Nat)))]) n ?_ ?_
  · exact ⟨_, 0, by omega, rfl, hle, k1, k3, fun k hk => by omega, holds.over ⟨rfl, rfl, rfl, trivial⟩⟩
  clear hle k1 k3
  have hfree := hall
  clear hall hj
  rintro m T S4 ⟨T', j, hj, rfl, hle, k1, k3, hall, rfl⟩
  repeat (first | refine LOps.nil ?_ | refine andThen_normal ?_ | refine andThen_exit ?_ | refine andThen_ret ?_ | refine inBlock_normal ?_ | refine inBlock_ret ?_ | refine inBlock_here ?_ | refine inBlock_out rfl ?_ | refine LWp.seq ?_ | refine LWp.region ?_ | refine LWp.block ?_ | refine LWp.exit ?_ | refine LWp.ret ?_ | refine LWp.skip ?_ | refine LOps.valA ?_ | refine LOps.outA ?_ | refine LOps.whenA ?_ | refine LOps.pickA ?_ | refine LOps.storeA ?_)
  refine LWp.cond rfl (fun h => ?_) (fun h => ?_)
  · have hlt : j < n := by
      have h : decide ((j : Int) < (((iList U).length : Nat) : Int)) = true := h
      rw [decide_eq_true_iff, List.length_map] at h; omega
    clear h
    have hUj := hUk j hlt
    have hnb := nib_low hr (show j < 15 by omega)
    obtain ⟨s, hs⟩ : ∃ s, s = l.rank j := ⟨_, rfl⟩
    have hsok : s.m.ok := by rw [hs]; exact hl.slot _ hnb
    have e : rankR l j = (rightS s && (decide (j = 0) || lessM (l.rank (j - 1)).m s.m) && coversL l s.m) := by unfold rankR; rw [if_pos (by omega), ← hs]
    repeat (first | refine LOps.val (LVal.indexLit hD rfl rfl rfl (n := j) rfl rfl rfl rfl hUj rfl) rfl rfl rfl ?_ | refine LOps.valH (LVal.indexP hD rfl rfl rfl rfl rfl rfl hnb) ?_ | refine LOps.valH (LVal.to (LVal.load hD rfl rfl k1 rfl (rdSlot l hnb)) (congrArg (fun z => TV.agg (slotL z)) hs.symm)) ?_ | refine LOps.nil ?_ | refine andThen_normal ?_ | refine andThen_exit ?_ | refine andThen_ret ?_ | refine inBlock_normal ?_ | refine inBlock_ret ?_ | refine inBlock_here ?_ | refine inBlock_out rfl ?_ | refine LWp.seq ?_ | refine LWp.region ?_ | refine LWp.block ?_ | refine LWp.exit ?_ | refine LWp.ret ?_ | refine LWp.skip ?_ | refine LOps.valA ?_ | refine LOps.outA ?_ | refine LOps.whenA ?_ | refine LOps.pickA ?_ | refine LOps.storeA ?_)
    refine LOps.do (LDo.alloc hD rfl rfl rfl) rfl rfl rfl ?_
    rintro _ _ ⟨b7, hb7, rfl, rfl⟩
    have n1_7 := fresh_ne hb7 k1
    have n3_7 := fresh_ne hb7 k3
    have s7 := hle.none hb7
    refine LOps.gen (fun S' => S.le S' ∧ S'.box b1 = some (leafL l) ∧ S'.box b3 = some [.sl .sh (iList U), .sl .sh (iList F)] ∧ S'.box b7 = some (slotL noSlot)) ⟨hle.newBox hb7 _, (box_new_ne _ _ n1_7).trans k1, (box_new_ne _ _ n3_7).trans k3, box_new _ _ _⟩ ?_
    clear hle k1 k3 hb7
    rintro S5 ⟨hle, k1, k3, k7⟩
    repeat (first | refine LOps.nil ?_ | refine andThen_normal ?_ | refine andThen_exit ?_ | refine andThen_ret ?_ | refine inBlock_normal ?_ | refine inBlock_ret ?_ | refine inBlock_here ?_ | refine inBlock_out rfl ?_ | refine LWp.seq ?_ | refine LWp.region ?_ | refine LWp.block ?_ | refine LWp.exit ?_ | refine LWp.ret ?_ | refine LWp.skip ?_ | refine LOps.valA ?_ | refine LOps.outA ?_ | refine LOps.whenA ?_ | refine LOps.pickA ?_ | refine LOps.storeA ?_)
    refine LWp.gen (fun S' => S.le S' ∧ S'.box b1 = some (leafL l) ∧ S'.box b3 = some [.sl .sh (iList U), .sl .sh (iList F)] ∧ S'.box b7 = some (slotL s)) ⟨hle.setBox s7 _, (box_set_ne _ _ n1_7).trans k1, (box_set_ne _ _ n3_7).trans k3, box_set _ _ _⟩ ?_
    clear hle k1 k3 k7
    rintro S6 ⟨hle, k1, k3, k7⟩
    have c1 := refRight_S hP s hsok
    have c2 := refCovers_F hP l s.m hl.high hsok
    clear hs hnb hUj
    cases hA : rightS s with
    | false =>
      rw [hA] at c1
      have e2 : rightL l = false := rightL_no (show j < 15 by omega) (by rw [e]; rw [hA]; rfl)
      refine LWp.drawL [0, 1, 2, 3, 4, 5, 6, 7, 8, 9, 10, 11, 12, 13, 14, 15, 16, 17, 18, 19, 20, 21, 22, 23, 24, 25, 26, 27, 28, 29] (by rw [hP]; rfl) rfl ?_
      repeat (first | refine LRl.val (fun _ _ => (LVal.call rfl rfl (by rw [hP]; exact Try.func35) rfl (by decide) (c1))) rfl rfl rfl ?_ | refine LRl.val (fun _ _ => (LVal.call rfl rfl (by rw [hP]; exact Try.func21) rfl (by decide) (c2))) rfl rfl rfl ?_ | refine LRl.valH (LVal.load hD rfl rfl k1 rfl (rdLeaf l)) ?_ (fun _ hS => LVal.load hD rfl rfl (hS.box _ _ k1 (by first | exact id | (intro hx; rcases hx with hx | hx <;> omega) | (intro hx; have hx2 : _ = _ := hx; omega))) rfl (rdLeaf l)) | refine LRl.val (fun _ _ => LVal.to (LVal.binOp hD rfl rfl rfl rfl) (r' := .one (.v (.bool true))) (congrArg (fun b => TV.one (.v (.bool b))) (by first | exact decide_eq_true (by omega) | (rw [beq_iff_eq]; omega) | (rw [bne_iff_ne]; omega)))) rfl rfl rfl ?_ | refine LRl.val (fun _ _ => LVal.to (LVal.binOp hD rfl rfl rfl rfl) (r' := .one (.v (.bool false))) (congrArg (fun b => TV.one (.v (.bool b))) (by first | exact decide_eq_false (by omega) | (rw [beq_eq_false_iff_ne]; omega) | (rw [bne_eq_false_iff_eq]; omega)))) rfl rfl rfl ?_ | refine LRl.valW ?_ | refine LRl.valC (fun _ => (LVal.call rfl rfl (by rw [hP]; exact Try.func35) rfl (by decide) (c1))) ?_ | refine LRl.valC (fun _ => (LVal.call rfl rfl (by rw [hP]; exact Try.func21) rfl (by decide) (c2))) ?_ | refine LRl.whenC (fun _ => (LVal.call rfl rfl (by rw [hP]; exact Try.func35) rfl (by decide) (c1))) ?_ | refine LRl.whenC (fun _ => (LVal.call rfl rfl (by rw [hP]; exact Try.func21) rfl (by decide) (c2))) ?_ | refine LRl.nil ?_ | refine LRl.valA ?_ | refine LRl.outA ?_ | refine LRl.whenA ?_ | refine LRl.pickA ?_)
      repeat (first | refine LWp.condT rfl ?_ | refine LOps.nil ?_ | refine andThen_normal ?_ | refine andThen_exit ?_ | refine andThen_ret ?_ | refine inBlock_normal ?_ | refine inBlock_ret ?_ | refine inBlock_here ?_ | refine inBlock_out rfl ?_ | refine LWp.seq ?_ | refine LWp.region ?_ | refine LWp.block ?_ | refine LWp.exit ?_ | refine LWp.ret ?_ | refine LWp.skip ?_ | refine LOps.valA ?_ | refine LOps.outA ?_ | refine LOps.whenA ?_ | refine LOps.pickA ?_ | refine LOps.storeA ?_)
      refine ⟨_, LRes.one rfl, ?_, hle⟩
      rw [e2]; rfl
    | true =>
      rw [hA] at c1
      cases hC : coversL l s.m with
      | false =>
        rw [hC] at c2
        have e2 : rightL l = false := rightL_no (show j < 15 by omega) (by rw [e]; rw [hC, Bool.and_false])
        refine LWp.drawL [0, 1, 2, 3, 4, 5, 6, 7, 8, 9, 10, 11, 12, 13, 14, 15, 16, 17, 18, 19, 20, 21, 22, 23, 24, 25, 26, 27, 28, 29] (by rw [hP]; rfl) rfl ?_
        repeat (first | refine LRl.val (fun _ _ => (LVal.call rfl rfl (by rw [hP]; exact Try.func35) rfl (by decide) (c1))) rfl rfl rfl ?_ | refine LRl.val (fun _ _ => (LVal.call rfl rfl (by rw [hP]; exact Try.func21) rfl (by decide) (c2))) rfl rfl rfl ?_ | refine LRl.valH (LVal.load hD rfl rfl k1 rfl (rdLeaf l)) ?_ (fun _ hS => LVal.load hD rfl rfl (hS.box _ _ k1 (by first | exact id | (intro hx; rcases hx with hx | hx <;> omega) | (intro hx; have hx2 : _ = _ := hx; omega))) rfl (rdLeaf l)) | refine LRl.val (fun _ _ => LVal.to (LVal.binOp hD rfl rfl rfl rfl) (r' := .one (.v (.bool true))) (congrArg (fun b => TV.one (.v (.bool b))) (by first | exact decide_eq_true (by omega) | (rw [beq_iff_eq]; omega) | (rw [bne_iff_ne]; omega)))) rfl rfl rfl ?_ | refine LRl.val (fun _ _ => LVal.to (LVal.binOp hD rfl rfl rfl rfl) (r' := .one (.v (.bool false))) (congrArg (fun b => TV.one (.v (.bool b))) (by first | exact decide_eq_false (by omega) | (rw [beq_eq_false_iff_ne]; omega) | (rw [bne_eq_false_iff_eq]; omega)))) rfl rfl rfl ?_ | refine LRl.valW ?_ | refine LRl.valC (fun _ => (LVal.call rfl rfl (by rw [hP]; exact Try.func35) rfl (by decide) (c1))) ?_ | refine LRl.valC (fun _ => (LVal.call rfl rfl (by rw [hP]; exact Try.func21) rfl (by decide) (c2))) ?_ | refine LRl.whenC (fun _ => (LVal.call rfl rfl (by rw [hP]; exact Try.func35) rfl (by decide) (c1))) ?_ | refine LRl.whenC (fun _ => (LVal.call rfl rfl (by rw [hP]; exact Try.func21) rfl (by decide) (c2))) ?_ | refine LRl.nil ?_ | refine LRl.valA ?_ | refine LRl.outA ?_ | refine LRl.whenA ?_ | refine LRl.pickA ?_)
        repeat (first | refine LWp.condT rfl ?_ | refine LOps.nil ?_ | refine andThen_normal ?_ | refine andThen_exit ?_ | refine andThen_ret ?_ | refine inBlock_normal ?_ | refine inBlock_ret ?_ | refine inBlock_here ?_ | refine inBlock_out rfl ?_ | refine LWp.seq ?_ | refine LWp.region ?_ | refine LWp.block ?_ | refine LWp.exit ?_ | refine LWp.ret ?_ | refine LWp.skip ?_ | refine LOps.valA ?_ | refine LOps.outA ?_ | refine LOps.whenA ?_ | refine LOps.pickA ?_ | refine LOps.storeA ?_)
        refine ⟨_, LRes.one rfl, ?_, hle⟩
        rw [e2]; rfl
      | true =>
        rw [hC] at c2
        by_cases h0 : j = 0
        · have d0 : decide (j = 0) = true := decide_eq_true h0
          refine LWp.drawL [0, 1, 2, 3, 4, 5, 6, 7, 8, 9, 10, 11, 12, 13, 14, 15, 16, 17, 18, 19, 20, 21, 22, 23, 24, 25, 26, 27, 28, 29] (by rw [hP]; rfl) rfl ?_
          repeat (first | refine LRl.val (fun _ _ => (LVal.call rfl rfl (by rw [hP]; exact Try.func35) rfl (by decide) (c1))) rfl rfl rfl ?_ | refine LRl.val (fun _ _ => (LVal.call rfl rfl (by rw [hP]; exact Try.func21) rfl (by decide) (c2))) rfl rfl rfl ?_ | refine LRl.valH (LVal.load hD rfl rfl k1 rfl (rdLeaf l)) ?_ (fun _ hS => LVal.load hD rfl rfl (hS.box _ _ k1 (by first | exact id | (intro hx; rcases hx with hx | hx <;> omega) | (intro hx; have hx2 : _ = _ := hx; omega))) rfl (rdLeaf l)) | refine LRl.val (fun _ _ => LVal.to (LVal.binOp hD rfl rfl rfl rfl) (r' := .one (.v (.bool true))) (congrArg (fun b => TV.one (.v (.bool b))) (by first | exact decide_eq_true (by omega) | (rw [beq_iff_eq]; omega) | (rw [bne_iff_ne]; omega)))) rfl rfl rfl ?_ | refine LRl.val (fun _ _ => LVal.to (LVal.binOp hD rfl rfl rfl rfl) (r' := .one (.v (.bool false))) (congrArg (fun b => TV.one (.v (.bool b))) (by first | exact decide_eq_false (by omega) | (rw [beq_eq_false_iff_ne]; omega) | (rw [bne_eq_false_iff_eq]; omega)))) rfl rfl rfl ?_ | refine LRl.valW ?_ | refine LRl.valC (fun _ => (LVal.call rfl rfl (by rw [hP]; exact Try.func35) rfl (by decide) (c1))) ?_ | refine LRl.valC (fun _ => (LVal.call rfl rfl (by rw [hP]; exact Try.func21) rfl (by decide) (c2))) ?_ | refine LRl.whenC (fun _ => (LVal.call rfl rfl (by rw [hP]; exact Try.func35) rfl (by decide) (c1))) ?_ | refine LRl.whenC (fun _ => (LVal.call rfl rfl (by rw [hP]; exact Try.func21) rfl (by decide) (c2))) ?_ | refine LRl.nil ?_ | refine LRl.valA ?_ | refine LRl.outA ?_ | refine LRl.whenA ?_ | refine LRl.pickA ?_)
          repeat (first | refine LWp.condF rfl ?_ | refine LOps.nil ?_ | refine andThen_normal ?_ | refine andThen_exit ?_ | refine andThen_ret ?_ | refine inBlock_normal ?_ | refine inBlock_ret ?_ | refine inBlock_here ?_ | refine inBlock_out rfl ?_ | refine LWp.seq ?_ | refine LWp.region ?_ | refine LWp.block ?_ | refine LWp.exit ?_ | refine LWp.ret ?_ | refine LWp.skip ?_ | refine LOps.valA ?_ | refine LOps.outA ?_ | refine LOps.whenA ?_ | refine LOps.pickA ?_ | refine LOps.storeA ?_)
          exact ⟨n - (j + 1), by omega, _, j + 1, by omega, rfl, hle, k1, k3, fun k hk => (by
            rcases Nat.lt_or_ge k j with h2 | h2
            · exact hall k h2
            · obtain rfl : k = j := by omega
              rw [e]; rw [hA, hC, d0]; rfl), holds.over ⟨rfl, rfl, rfl, trivial⟩⟩
        · have d0 : decide (j = 0) = false := decide_eq_false h0
          obtain ⟨i, hi⟩ : ∃ i, i = j - 1 := ⟨_, rfl⟩
          have hji : j = i + 1 := by omega
          have hUi := hUk i (by omega)
          have hni := nib_low hr (show i < 15 by omega)
          have c3 := refLess_M hP (l.rank i).m s.m (hl.slot _ hni) hsok
          rw [← hi] at e
          cases hL : lessM (l.rank i).m s.m with
          | false =>
            rw [hL] at c3
            have e2 : rightL l = false := rightL_no (show j < 15 by omega) (by rw [e]; rw [hL, d0, hA]; rfl)
            refine LWp.drawL [0, 1, 2, 3, 4, 5, 6, 7, 8, 9, 10, 11, 12, 13, 14, 15, 16, 17, 18, 19, 20, 21, 22, 23, 24, 25, 26, 27, 28, 29] (by rw [hP]; rfl) rfl ?_
            repeat (first | refine LRl.val (fun _ _ => (LVal.call rfl rfl (by rw [hP]; exact Try.func35) rfl (by decide) (c1))) rfl rfl rfl ?_ | refine LRl.val (fun _ _ => (LVal.call rfl rfl (by rw [hP]; exact Try.func21) rfl (by decide) (c2))) rfl rfl rfl ?_ | refine LRl.val (fun _ _ => (LVal.call rfl rfl (by rw [hP]; exact Try.func34) rfl (by decide) (c3))) rfl rfl rfl ?_ | refine LRl.valH (LVal.load hD rfl rfl k1 rfl (rdLeaf l)) ?_ (fun _ hS => LVal.load hD rfl rfl (hS.box _ _ k1 (by first | exact id | (intro hx; rcases hx with hx | hx <;> omega) | (intro hx; have hx2 : _ = _ := hx; omega))) rfl (rdLeaf l)) | refine LRl.valH (LVal.indexLit hD rfl rfl rfl (n := i) (by omega) rfl rfl rfl hUi rfl) ?_ (fun _ hS => LVal.indexLit hD rfl rfl rfl (n := i) (by omega) rfl rfl rfl hUi rfl) | refine LRl.valH (LVal.indexP hD rfl rfl rfl rfl rfl rfl hni) ?_ (fun _ hS => LVal.indexP hD rfl rfl rfl rfl rfl rfl hni) | refine LRl.valH (LVal.load hD rfl rfl k1 rfl (rdMark l hni)) ?_ (fun _ hS => LVal.load hD rfl rfl (hS.box _ _ k1 (by first | exact id | (intro hx; rcases hx with hx | hx <;> omega) | (intro hx; have hx2 : _ = _ := hx; omega))) rfl (rdMark l hni)) | refine LRl.val (fun _ _ => LVal.to (LVal.binOp hD rfl rfl rfl rfl) (r' := .one (.v (.bool true))) (congrArg (fun b => TV.one (.v (.bool b))) (by first | exact decide_eq_true (by omega) | (rw [beq_iff_eq]; omega) | (rw [bne_iff_ne]; omega)))) rfl rfl rfl ?_ | refine LRl.val (fun _ _ => LVal.to (LVal.binOp hD rfl rfl rfl rfl) (r' := .one (.v (.bool false))) (congrArg (fun b => TV.one (.v (.bool b))) (by first | exact decide_eq_false (by omega) | (rw [beq_eq_false_iff_ne]; omega) | (rw [bne_eq_false_iff_eq]; omega)))) rfl rfl rfl ?_ | refine LRl.valW ?_ | refine LRl.valC (fun _ => (LVal.call rfl rfl (by rw [hP]; exact Try.func35) rfl (by decide) (c1))) ?_ | refine LRl.valC (fun _ => (LVal.call rfl rfl (by rw [hP]; exact Try.func21) rfl (by decide) (c2))) ?_ | refine LRl.valC (fun _ => (LVal.call rfl rfl (by rw [hP]; exact Try.func34) rfl (by decide) (c3))) ?_ | refine LRl.whenC (fun _ => (LVal.call rfl rfl (by rw [hP]; exact Try.func35) rfl (by decide) (c1))) ?_ | refine LRl.whenC (fun _ => (LVal.call rfl rfl (by rw [hP]; exact Try.func21) rfl (by decide) (c2))) ?_ | refine LRl.whenC (fun _ => (LVal.call rfl rfl (by rw [hP]; exact Try.func34) rfl (by decide) (c3))) ?_ | refine LRl.nil ?_ | refine LRl.valA ?_ | refine LRl.outA ?_ | refine LRl.whenA ?_ | refine LRl.pickA ?_)
            repeat (first | refine LWp.condT rfl ?_ | refine LOps.nil ?_ | refine andThen_normal ?_ | refine andThen_exit ?_ | refine andThen_ret ?_ | refine inBlock_normal ?_ | refine inBlock_ret ?_ | refine inBlock_here ?_ | refine inBlock_out rfl ?_ | refine LWp.seq ?_ | refine LWp.region ?_ | refine LWp.block ?_ | refine LWp.exit ?_ | refine LWp.ret ?_ | refine LWp.skip ?_ | refine LOps.valA ?_ | refine LOps.outA ?_ | refine LOps.whenA ?_ | refine LOps.pickA ?_ | refine LOps.storeA ?_)
            refine ⟨_, LRes.one rfl, ?_, hle⟩
            rw [e2]; rfl
          | true =>
            rw [hL] at c3
            refine LWp.drawL [0, 1, 2, 3, 4, 5, 6, 7, 8, 9, 10, 11, 12, 13, 14, 15, 16, 17, 18, 19, 20, 21, 22, 23, 24, 25, 26, 27, 28, 29] (by rw [hP]; rfl) rfl ?_
            repeat (first | refine LRl.val (fun _ _ => (LVal.call rfl rfl (by rw [hP]; exact Try.func35) rfl (by decide) (c1))) rfl rfl rfl ?_ | refine LRl.val (fun _ _ => (LVal.call rfl rfl (by rw [hP]; exact Try.func21) rfl (by decide) (c2))) rfl rfl rfl ?_ | refine LRl.val (fun _ _ => (LVal.call rfl rfl (by rw [hP]; exact Try.func34) rfl (by decide) (c3))) rfl rfl rfl ?_ | refine LRl.valH (LVal.load hD rfl rfl k1 rfl (rdLeaf l)) ?_ (fun _ hS => LVal.load hD rfl rfl (hS.box _ _ k1 (by first | exact id | (intro hx; rcases hx with hx | hx <;> omega) | (intro hx; have hx2 : _ = _ := hx; omega))) rfl (rdLeaf l)) | refine LRl.valH (LVal.indexLit hD rfl rfl rfl (n := i) (by omega) rfl rfl rfl hUi rfl) ?_ (fun _ hS => LVal.indexLit hD rfl rfl rfl (n := i) (by omega) rfl rfl rfl hUi rfl) | refine LRl.valH (LVal.indexP hD rfl rfl rfl rfl rfl rfl hni) ?_ (fun _ hS => LVal.indexP hD rfl rfl rfl rfl rfl rfl hni) | refine LRl.valH (LVal.load hD rfl rfl k1 rfl (rdMark l hni)) ?_ (fun _ hS => LVal.load hD rfl rfl (hS.box _ _ k1 (by first | exact id | (intro hx; rcases hx with hx | hx <;> omega) | (intro hx; have hx2 : _ = _ := hx; omega))) rfl (rdMark l hni)) | refine LRl.val (fun _ _ => LVal.to (LVal.binOp hD rfl rfl rfl rfl) (r' := .one (.v (.bool true))) (congrArg (fun b => TV.one (.v (.bool b))) (by first | exact decide_eq_true (by omega) | (rw [beq_iff_eq]; omega) | (rw [bne_iff_ne]; omega)))) rfl rfl rfl ?_ | refine LRl.val (fun _ _ => LVal.to (LVal.binOp hD rfl rfl rfl rfl) (r' := .one (.v (.bool false))) (congrArg (fun b => TV.one (.v (.bool b))) (by first | exact decide_eq_false (by omega) | (rw [beq_eq_false_iff_ne]; omega) | (rw [bne_eq_false_iff_eq]; omega)))) rfl rfl rfl ?_ | refine LRl.valW ?_ | refine LRl.valC (fun _ => (LVal.call rfl rfl (by rw [hP]; exact Try.func35) rfl (by decide) (c1))) ?_ | refine LRl.valC (fun _ => (LVal.call rfl rfl (by rw [hP]; exact Try.func21) rfl (by decide) (c2))) ?_ | refine LRl.valC (fun _ => (LVal.call rfl rfl (by rw [hP]; exact Try.func34) rfl (by decide) (c3))) ?_ | refine LRl.whenC (fun _ => (LVal.call rfl rfl (by rw [hP]; exact Try.func35) rfl (by decide) (c1))) ?_ | refine LRl.whenC (fun _ => (LVal.call rfl rfl (by rw [hP]; exact Try.func21) rfl (by decide) (c2))) ?_ | refine LRl.whenC (fun _ => (LVal.call rfl rfl (by rw [hP]; exact Try.func34) rfl (by decide) (c3))) ?_ | refine LRl.nil ?_ | refine LRl.valA ?_ | refine LRl.outA ?_ | refine LRl.whenA ?_ | refine LRl.pickA ?_)
            repeat (first | refine LWp.condF rfl ?_ | refine LOps.nil ?_ | refine andThen_normal ?_ | refine andThen_exit ?_ | refine andThen_ret ?_ | refine inBlock_normal ?_ | refine inBlock_ret ?_ | refine inBlock_here ?_ | refine inBlock_out rfl ?_ | refine LWp.seq ?_ | refine LWp.region ?_ | refine LWp.block ?_ | refine LWp.exit ?_ | refine LWp.ret ?_ | refine LWp.skip ?_ | refine LOps.valA ?_ | refine LOps.outA ?_ | refine LOps.whenA ?_ | refine LOps.pickA ?_ | refine LOps.storeA ?_)
            exact ⟨n - (j + 1), by omega, _, j + 1, by omega, rfl, hle, k1, k3, fun k hk => (by
              rcases Nat.lt_or_ge k j with h2 | h2
              · exact hall k h2
              · obtain rfl : k = j := by omega
                rw [e]; rw [hA, hC, hL, d0]; rfl), holds.over ⟨rfl, rfl, rfl, trivial⟩⟩
  · have hge : j = n := by
      have h : decide ((j : Int) < (((iList U).length : Nat) : Int)) = false := h
      rw [decide_eq_false_iff_not, List.length_map] at h; omega
    subst hge
    have e := rightL_yes hhead fun k hk => (by
      rcases Nat.lt_or_ge k j with h2 | h2
      · exact hall k h2
      · have := hfree (k - j) (by omega)
        rwa [show j + (k - j) = k by omega] at this : rankR l k = true)
    repeat (first | refine LOps.nil ?_ | refine andThen_normal ?_ | refine andThen_exit ?_ | refine andThen_ret ?_ | refine inBlock_normal ?_ | refine inBlock_ret ?_ | refine inBlock_here ?_ | refine inBlock_out rfl ?_ | refine LWp.seq ?_ | refine LWp.region ?_ | refine LWp.block ?_ | refine LWp.exit ?_ | refine LWp.ret ?_ | refine LWp.skip ?_ | refine LOps.valA ?_ | refine LOps.outA ?_ | refine LOps.whenA ?_ | refine LOps.pickA ?_ | refine LOps.storeA ?_)
    refine ⟨_, LRes.one rfl, ?_, hle⟩
    rw [e]; rfl
end Go.Proofs.Ytgkjhlmfgaaddaa.LF
