/- DirRises: the walk. -/
import Derived.Test.YtkjbdldjfjkneaaLDw
set_option linter.unusedVariables false
set_option linter.unusedSimpArgs false
namespace Go.Proofs.Ytkjbdldjfjkneaa.LF
open Go.RowKit
set_option linter.unusedVariables false

theorem less_list : ∀ (x y : List UInt8), Op.bytesLess x y = ltB x y := by
  intro x
  induction x with
  | nil => intro y; cases y <;> simp [Op.bytesLess, ltB]
  | cons a x ih =>
    intro y
    cases y with
    | nil => simp [Op.bytesLess, ltB]
    | cons b y =>
      rw [Op.bytesLess, ih, Bool.eq_iff_iff]
      simp only [ltB, Bool.or_eq_true, decide_eq_true_eq, Bool.and_eq_true, beq_iff_eq, List.cons_lt_cons_iff]
theorem less_str (a b : ByteArray) : Op.bytesLess a.toList b.toList = ltS a b := by
  rw [less_list, Lib.toList_data, Lib.toList_data]; rfl
theorem leq_str (a b : ByteArray) : (Op.bytesLess a.toList b.toList || a.toList == b.toList) = !ltS b a := by
  rw [less_str, toList_eq]
  by_cases h : a = b
  · subst h; simp [ltS_irrefl]
  · rw [decide_eq_false h, Bool.or_false]
    cases h1 : ltS a b with
    | true => rw [ltS_asymm h1]; rfl
    | false =>
      cases h2 : ltS b a with
      | true => rfl
      | false => exact absurd (ltS_total h1 h2) h

theorem Okd.find {d : Dv Int} (h : Okd d) (key : ByteArray) : findDI (some d) key = (((d.spot key : Nat) : Int), d.xs[d.spot key]'(by rw [← h.wf.len]; exact h.wf.spot_lt key)) := by
  have hsx : d.spot key < d.xs.length := by rw [← h.wf.len]; exact h.wf.spot_lt key
  simp only [findDI]; simp [hsx]

def hunA (k : Nat) : Int := 100 * (k : Int)
set_option maxHeartbeats 4000000 in
theorem made_F {G : Ctx} (hP : G.P = Try.prog) (l : List ActV) (hkind : ∀ a ∈ l, 0 ≤ a.kind ∧ a.kind < 256) (hl : l.length ≤ 100) (hall : l.all okAct = true) : LFun G 25 [.one (.sl .sh (l.map actL))] (dTI (some (runA hunA l l.length))) := LFun.of fun S => by
  have hD : TabOK G.P D := by rw [hP]; exact hD0
  have hml : (l.map actL).length = l.length := List.length_map ..
  have hall2 := List.all_eq_true.1 hall
  have hrun := runA_ok hunA hall
  refine LCalls.enter (fn := Try.f25) (by rw [hP]; exact Try.func25) rfl rfl ?_
  repeat (first | refine LOps.nil ?_ | refine andThen_normal ?_ | refine andThen_exit ?_ | refine andThen_ret ?_ | refine inBlock_normal ?_ | refine inBlock_ret ?_ | refine inBlock_here ?_ | refine inBlock_out rfl ?_ | refine LWp.seq ?_ | refine LWp.region ?_ | refine LWp.block ?_ | refine LWp.exit ?_ | refine LWp.ret ?_ | refine LWp.skip ?_ | refine LOps.val (LVal.call rfl rfl (by rw [hP]; exact Try.func11) rfl (by decide) (newI_F hP 0)) rfl rfl rfl ?_ | refine LOps.whenC (LVal.call rfl rfl (by rw [hP]; exact Try.func11) rfl (by decide) (newI_F hP 0)) ?_ | refine LOps.valA ?_ | refine LOps.outA ?_ | refine LOps.whenA ?_ | refine LOps.pickA ?_ | refine LOps.storeA ?_)
  refine LWp.loop (fun m T S' => S' = S ∧ ∃ (T' : Nat → TV) (j : Nat), j ≤ l.length ∧ m = l.length - j ∧ T = over T' [(0, .one (.sl .sh (l.map actL))), (3, dTI (some (runA hunA l j))), (4, .one (iv (j : Nat)))]) l.length ?_ ?_
  · exact ⟨rfl, _, 0, by omega, rfl, holds.over ⟨rfl, rfl, rfl, trivial⟩⟩
  rintro m T S1 ⟨rfl, T', j, hj, rfl, rfl⟩
  repeat (first | refine LOps.nil ?_ | refine andThen_normal ?_ | refine andThen_exit ?_ | refine andThen_ret ?_ | refine inBlock_normal ?_ | refine inBlock_ret ?_ | refine inBlock_here ?_ | refine inBlock_out rfl ?_ | refine LWp.seq ?_ | refine LWp.region ?_ | refine LWp.block ?_ | refine LWp.exit ?_ | refine LWp.ret ?_ | refine LWp.skip ?_ | refine LOps.valA ?_ | refine LOps.outA ?_ | refine LOps.whenA ?_ | refine LOps.pickA ?_ | refine LOps.storeA ?_)
  refine LWp.cond rfl (fun h => ?_) (fun h => ?_)
  · have hlt : j < l.length := by
      have h : decide ((j : Int) < ((l.map actL).length : Int)) = true := h
      rw [decide_eq_true_iff] at h; omega
    have hm := List.getElem_mem hlt
    have hag := again_F hP (runA hunA l j) (hrun j).wf l[j] (hkind _ hm) (okAct_at (hall2 _ hm)).2.1 (hunA j) (by unfold hunA; omega)
    rcases againD_cases (hrun j) (hall2 _ hm) (hunA j) with ⟨e, h1, h2⟩ | ⟨d', h1, h2⟩
    · rw [h1] at hag
      repeat (first | refine LOps.valH (LVal.call rfl rfl (by rw [hP]; exact Try.func12) rfl (by decide) (hag)) ?_ | refine LWp.condF rfl ?_ | refine LOps.valH (LVal.to (LVal.binOp hD rfl rfl rfl rfl) (r' := .one (.v (.bool true))) (congrArg (fun b => TV.one (.v (.bool b))) (by first | exact decide_eq_true (by omega) | (rw [beq_iff_eq]; omega) | (rw [bne_iff_ne]; omega)))) ?_ | refine LOps.valH (LVal.to (LVal.binOp hD rfl rfl rfl rfl) (r' := .one (.v (.bool false))) (congrArg (fun b => TV.one (.v (.bool b))) (by first | exact decide_eq_false (by omega) | (rw [beq_eq_false_iff_ne]; omega) | (rw [bne_eq_false_iff_eq]; omega)))) ?_ | refine LOps.valW ?_ | refine LOps.nil ?_ | refine andThen_normal ?_ | refine andThen_exit ?_ | refine andThen_ret ?_ | refine inBlock_normal ?_ | refine inBlock_ret ?_ | refine inBlock_here ?_ | refine inBlock_out rfl ?_ | refine LWp.seq ?_ | refine LWp.region ?_ | refine LWp.block ?_ | refine LWp.exit ?_ | refine LWp.ret ?_ | refine LWp.skip ?_ | refine LOps.val (LVal.call rfl rfl (by rw [hP]; exact Try.func12) rfl (by decide) (hag)) rfl rfl rfl ?_ | refine LOps.whenC (LVal.call rfl rfl (by rw [hP]; exact Try.func12) rfl (by decide) (hag)) ?_ | refine LOps.valA ?_ | refine LOps.outA ?_ | refine LOps.whenA ?_ | refine LOps.pickA ?_ | refine LOps.storeA ?_)
      exact ⟨l.length - (j + 1), by omega, rfl, _, j + 1, by omega, rfl, holds.over ⟨rfl, by rw [runA_succ hunA hlt, actD_no h1 h2]; rfl, rfl, trivial⟩⟩
    · rw [h1] at hag
      repeat (first | refine LOps.valH (LVal.call rfl rfl (by rw [hP]; exact Try.func12) rfl (by decide) (hag)) ?_ | refine LWp.condT rfl ?_ | refine LOps.valH (LVal.to (LVal.binOp hD rfl rfl rfl rfl) (r' := .one (.v (.bool true))) (congrArg (fun b => TV.one (.v (.bool b))) (by first | exact decide_eq_true (by omega) | (rw [beq_iff_eq]; omega) | (rw [bne_iff_ne]; omega)))) ?_ | refine LOps.valH (LVal.to (LVal.binOp hD rfl rfl rfl rfl) (r' := .one (.v (.bool false))) (congrArg (fun b => TV.one (.v (.bool b))) (by first | exact decide_eq_false (by omega) | (rw [beq_eq_false_iff_ne]; omega) | (rw [bne_eq_false_iff_eq]; omega)))) ?_ | refine LOps.valW ?_ | refine LOps.nil ?_ | refine andThen_normal ?_ | refine andThen_exit ?_ | refine andThen_ret ?_ | refine inBlock_normal ?_ | refine inBlock_ret ?_ | refine inBlock_here ?_ | refine inBlock_out rfl ?_ | refine LWp.seq ?_ | refine LWp.region ?_ | refine LWp.block ?_ | refine LWp.exit ?_ | refine LWp.ret ?_ | refine LWp.skip ?_ | refine LOps.val (LVal.call rfl rfl (by rw [hP]; exact Try.func12) rfl (by decide) (hag)) rfl rfl rfl ?_ | refine LOps.whenC (LVal.call rfl rfl (by rw [hP]; exact Try.func12) rfl (by decide) (hag)) ?_ | refine LOps.valA ?_ | refine LOps.outA ?_ | refine LOps.whenA ?_ | refine LOps.pickA ?_ | refine LOps.storeA ?_)
      exact ⟨l.length - (j + 1), by omega, rfl, _, j + 1, by omega, rfl, holds.over ⟨rfl, by rw [runA_succ hunA hlt, actD_yes h1]; rfl, rfl, trivial⟩⟩
  · have hge : j = l.length := by
      have h : decide ((j : Int) < ((l.map actL).length : Int)) = false := h
      rw [decide_eq_false_iff_not] at h; omega
    subst hge
    repeat (first | refine LOps.nil ?_ | refine andThen_normal ?_ | refine andThen_exit ?_ | refine andThen_ret ?_ | refine inBlock_normal ?_ | refine inBlock_ret ?_ | refine inBlock_here ?_ | refine inBlock_out rfl ?_ | refine LWp.seq ?_ | refine LWp.region ?_ | refine LWp.block ?_ | refine LWp.exit ?_ | refine LWp.ret ?_ | refine LWp.skip ?_ | refine LOps.valA ?_ | refine LOps.outA ?_ | refine LOps.whenA ?_ | refine LOps.pickA ?_ | refine LOps.storeA ?_)
    exact ⟨_, LRes.one rfl, rfl, .refl _⟩

set_option maxHeartbeats 8000000 in
theorem rises_L {G : Ctx} (hP : G.P = Try.prog) (l : List ActV) (hkind : ∀ a ∈ l, 0 ≤ a.kind ∧ a.kind < 256) (a b : ByteArray) (S : LS) : LCalls G 5 [.one (.sl .sh (l.map actL)), .one (sv a), .one (sv b)] (fun r _ => r = .one (bv true)) S := by
  have hD : TabOK G.P D := by rw [hP]; exact hD0
  have hml : (l.map actL).length = l.length := List.length_map ..
  refine LCalls.enter (fn := Try.f5) (by rw [hP]; exact Try.func5) rfl rfl ?_
  repeat (first | refine LOps.nil ?_ | refine andThen_normal ?_ | refine andThen_exit ?_ | refine andThen_ret ?_ | refine inBlock_normal ?_ | refine inBlock_ret ?_ | refine inBlock_here ?_ | refine inBlock_out rfl ?_ | refine LWp.seq ?_ | refine LWp.region ?_ | refine LWp.block ?_ | refine LWp.exit ?_ | refine LWp.ret ?_ | refine LWp.skip ?_ | refine LOps.val (LVal.call rfl rfl (by rw [hP]; exact Try.func9) rfl (by decide) (great_F hP l)) rfl rfl rfl ?_ | refine LOps.whenC (LVal.call rfl rfl (by rw [hP]; exact Try.func9) rfl (by decide) (great_F hP l)) ?_ | refine LOps.valA ?_ | refine LOps.outA ?_ | refine LOps.whenA ?_ | refine LOps.pickA ?_ | refine LOps.storeA ?_)
  refine LWp.cond rfl (fun h => ?_) (fun h => ?_)
  · repeat (first | refine LOps.nil ?_ | refine andThen_normal ?_ | refine andThen_exit ?_ | refine andThen_ret ?_ | refine inBlock_normal ?_ | refine inBlock_ret ?_ | refine inBlock_here ?_ | refine inBlock_out rfl ?_ | refine LWp.seq ?_ | refine LWp.region ?_ | refine LWp.block ?_ | refine LWp.exit ?_ | refine LWp.ret ?_ | refine LWp.skip ?_ | refine LOps.val (LVal.call rfl rfl (by rw [hP]; exact Try.func10) rfl (by decide) (wakes_F hP)) rfl rfl rfl ?_ | refine LOps.whenC (LVal.call rfl rfl (by rw [hP]; exact Try.func10) rfl (by decide) (wakes_F hP)) ?_ | refine LOps.valA ?_ | refine LOps.outA ?_ | refine LOps.whenA ?_ | refine LOps.pickA ?_ | refine LOps.storeA ?_)
    exact ⟨_, LRes.one rfl, rfl⟩
  have h : ((greatA l || decide ((a.size : Int) > 500)) || decide ((b.size : Int) > 500)) = false := h
  rw [Bool.or_eq_false_iff, Bool.or_eq_false_iff, decide_eq_false_iff_not, decide_eq_false_iff_not] at h
  obtain ⟨hl, hall⟩ := greatA_no h.1.1
  clear h
  have hmade := made_F hP l hkind hl hall
  have hok := runA_ok hunA hall l.length
  generalize runA hunA l l.length = d at hmade hok
  have hd := hok.wf
  have hfew := hok.few
  have hfa := findI_F hP (some d) (some_wf hd) a
  have hfb := findI_F hP (some d) (some_wf hd) b
  have hsa := hd.spot_lt a
  have hsb := hd.spot_lt b
  have hln : LFun G 14 [dTI (some d)] (.one (iv (d.los.length : Nat))) := lenI_F hP (some d)
  rw [hok.find a] at hfa
  rw [hok.find b] at hfb
  repeat (first | refine LOps.nil ?_ | refine andThen_normal ?_ | refine andThen_exit ?_ | refine andThen_ret ?_ | refine inBlock_normal ?_ | refine inBlock_ret ?_ | refine inBlock_here ?_ | refine inBlock_out rfl ?_ | refine LWp.seq ?_ | refine LWp.region ?_ | refine LWp.block ?_ | refine LWp.exit ?_ | refine LWp.ret ?_ | refine LWp.skip ?_ | refine LOps.val (LVal.call rfl rfl (by rw [hP]; exact Try.func25) rfl (by decide) (hmade)) rfl rfl rfl ?_ | refine LOps.val (LVal.call rfl rfl (by rw [hP]; exact Try.func13) rfl (by decide) (hfa)) rfl rfl rfl ?_ | refine LOps.val (LVal.call rfl rfl (by rw [hP]; exact Try.func13) rfl (by decide) (hfb)) rfl rfl rfl ?_ | refine LOps.val (LVal.call rfl rfl (by rw [hP]; exact Try.func14) rfl (by decide) (hln)) rfl rfl rfl ?_ | refine LOps.whenC (LVal.call rfl rfl (by rw [hP]; exact Try.func25) rfl (by decide) (hmade)) ?_ | refine LOps.whenC (LVal.call rfl rfl (by rw [hP]; exact Try.func13) rfl (by decide) (hfa)) ?_ | refine LOps.whenC (LVal.call rfl rfl (by rw [hP]; exact Try.func13) rfl (by decide) (hfb)) ?_ | refine LOps.whenC (LVal.call rfl rfl (by rw [hP]; exact Try.func14) rfl (by decide) (hln)) ?_ | refine LOps.valA ?_ | refine LOps.outA ?_ | refine LOps.whenA ?_ | refine LOps.pickA ?_ | refine LOps.storeA ?_)
  refine LWp.cond rfl (fun h => ?_) (fun h => ?_)
  · exfalso
    have h : ((((((Op.bytesLess a.toList b.toList || a.toList == b.toList) && decide (((d.spot a : Nat) : Int) > ((d.spot b : Nat) : Int))) || ((!Op.bytesLess a.toList b.toList) && decide (((d.spot a : Nat) : Int) < ((d.spot b : Nat) : Int))))) || decide (((d.spot a : Nat) : Int) < 0)) || decide (((d.spot a : Nat) : Int) ≥ ((d.los.length : Nat) : Int))) = true := h
    rw [leq_str, less_str] at h
    simp only [Bool.or_eq_true, Bool.and_eq_true, Bool.not_eq_true', decide_eq_true_eq] at h
    rcases h with ((⟨h1, h2⟩ | ⟨h1, h2⟩) | h) | h
    · have := hd.spot_mono h1; omega
    · have := hd.spot_mono h1; omega
    · omega
    · omega
  clear h
  repeat (first | refine LOps.nil ?_ | refine andThen_normal ?_ | refine andThen_exit ?_ | refine andThen_ret ?_ | refine inBlock_normal ?_ | refine inBlock_ret ?_ | refine inBlock_here ?_ | refine inBlock_out rfl ?_ | refine LWp.seq ?_ | refine LWp.region ?_ | refine LWp.block ?_ | refine LWp.exit ?_ | refine LWp.ret ?_ | refine LWp.skip ?_ | refine LOps.valA ?_ | refine LOps.outA ?_ | refine LOps.whenA ?_ | refine LOps.pickA ?_ | refine LOps.storeA ?_)
  refine LWp.loop (fun m T S' => S' = S ∧ ∃ (T' : Nat → TV) (i : Nat), i ≤ d.los.length ∧ m = d.los.length - i ∧ T = over T' [(7, dTI (some d)), (12, .one (iv (i : Nat)))]) d.los.length ?_ ?_
  · exact ⟨rfl, _, 0, by omega, rfl, holds.over ⟨rfl, rfl, trivial⟩⟩
  rintro m T S2 ⟨rfl, T', i, hi, rfl, rfl⟩
  repeat (first | refine LOps.nil ?_ | refine andThen_normal ?_ | refine andThen_exit ?_ | refine andThen_ret ?_ | refine inBlock_normal ?_ | refine inBlock_ret ?_ | refine inBlock_here ?_ | refine inBlock_out rfl ?_ | refine LWp.seq ?_ | refine LWp.region ?_ | refine LWp.block ?_ | refine LWp.exit ?_ | refine LWp.ret ?_ | refine LWp.skip ?_ | refine LOps.val (LVal.call rfl rfl (by rw [hP]; exact Try.func14) rfl (by decide) (hln)) rfl rfl rfl ?_ | refine LOps.whenC (LVal.call rfl rfl (by rw [hP]; exact Try.func14) rfl (by decide) (hln)) ?_ | refine LOps.valA ?_ | refine LOps.outA ?_ | refine LOps.whenA ?_ | refine LOps.pickA ?_ | refine LOps.storeA ?_)
  refine LWp.cond rfl (fun h => ?_) (fun h => ?_)
  · have hlt : i < d.los.length := by
      have h : decide ((i : Int) < (d.los.length : Int)) = true := h
      rw [decide_eq_true_iff] at h; omega
    have hat := atI_F hP (some d) (some_wf hd) (i : Int)
    rw [hok.at hlt] at hat
    have hhi := hiI_F hP (some d) (fun x e => (some_wf hd x e).small) (i : Int)
    have hff := findI_F hP (some d) (some_wf hd) d.los[i]
    rw [hok.find] at hff
    simp only [hd.spot_at hlt] at hff
    by_cases hmore : i + 1 < d.los.length
    · rw [hok.hi hmore] at hhi
      have hat2 := atI_F hP (some d) (some_wf hd) ((i + 1 : Nat) : Int)
      rw [hok.at hmore] at hat2
      repeat (first | refine LOps.valH (LVal.call rfl rfl (by rw [hP]; exact Try.func15) rfl (by decide) (hat)) ?_ | refine LOps.valH (LVal.call rfl rfl (by rw [hP]; exact Try.func15) rfl (by decide) (hat2)) ?_ | refine LOps.valH (LVal.call rfl rfl (by rw [hP]; exact Try.func16) rfl (by decide) (hhi)) ?_ | refine LOps.valH (LVal.call rfl rfl (by rw [hP]; exact Try.func13) rfl (by decide) (hff)) ?_ | refine LOps.valH (LVal.call rfl rfl (by rw [hP]; exact Try.func14) rfl (by decide) (hln)) ?_ | refine LWp.condT rfl ?_ | refine LWp.condF rfl ?_ | refine LOps.valH (LVal.to (LVal.binOp hD rfl rfl rfl rfl) (r' := .one (.v (.bool true))) (congrArg (fun b => TV.one (.v (.bool b))) (by first | exact decide_eq_true (by omega) | (rw [beq_iff_eq]; omega) | (rw [bne_iff_ne]; omega)))) ?_ | refine LOps.valH (LVal.to (LVal.binOp hD rfl rfl rfl rfl) (r' := .one (.v (.bool false))) (congrArg (fun b => TV.one (.v (.bool b))) (by first | exact decide_eq_false (by omega) | (rw [beq_eq_false_iff_ne]; omega) | (rw [bne_eq_false_iff_eq]; omega)))) ?_ | refine LOps.valW ?_ | refine LOps.nil ?_ | refine andThen_normal ?_ | refine andThen_exit ?_ | refine andThen_ret ?_ | refine inBlock_normal ?_ | refine inBlock_ret ?_ | refine inBlock_here ?_ | refine inBlock_out rfl ?_ | refine LWp.seq ?_ | refine LWp.region ?_ | refine LWp.block ?_ | refine LWp.exit ?_ | refine LWp.ret ?_ | refine LWp.skip ?_ | refine LOps.val (LVal.call rfl rfl (by rw [hP]; exact Try.func15) rfl (by decide) (hat)) rfl rfl rfl ?_ | refine LOps.val (LVal.call rfl rfl (by rw [hP]; exact Try.func15) rfl (by decide) (hat2)) rfl rfl rfl ?_ | refine LOps.val (LVal.call rfl rfl (by rw [hP]; exact Try.func16) rfl (by decide) (hhi)) rfl rfl rfl ?_ | refine LOps.val (LVal.call rfl rfl (by rw [hP]; exact Try.func13) rfl (by decide) (hff)) rfl rfl rfl ?_ | refine LOps.val (LVal.call rfl rfl (by rw [hP]; exact Try.func14) rfl (by decide) (hln)) rfl rfl rfl ?_ | refine LOps.whenC (LVal.call rfl rfl (by rw [hP]; exact Try.func15) rfl (by decide) (hat)) ?_ | refine LOps.whenC (LVal.call rfl rfl (by rw [hP]; exact Try.func15) rfl (by decide) (hat2)) ?_ | refine LOps.whenC (LVal.call rfl rfl (by rw [hP]; exact Try.func16) rfl (by decide) (hhi)) ?_ | refine LOps.whenC (LVal.call rfl rfl (by rw [hP]; exact Try.func13) rfl (by decide) (hff)) ?_ | refine LOps.whenC (LVal.call rfl rfl (by rw [hP]; exact Try.func14) rfl (by decide) (hln)) ?_ | refine LOps.valA ?_ | refine LOps.outA ?_ | refine LOps.whenA ?_ | refine LOps.pickA ?_ | refine LOps.storeA ?_)
      refine LWp.cond rfl (fun h => ?_) (fun h => ?_)
      · exfalso
        have h : (!decide (d.los[i + 1] = d.los[i + 1])) = true := h
        simp at h
      repeat (first | refine LOps.nil ?_ | refine andThen_normal ?_ | refine andThen_exit ?_ | refine andThen_ret ?_ | refine inBlock_normal ?_ | refine inBlock_ret ?_ | refine inBlock_here ?_ | refine inBlock_out rfl ?_ | refine LWp.seq ?_ | refine LWp.region ?_ | refine LWp.block ?_ | refine LWp.exit ?_ | refine LWp.ret ?_ | refine LWp.skip ?_ | refine LOps.valA ?_ | refine LOps.outA ?_ | refine LOps.whenA ?_ | refine LOps.pickA ?_ | refine LOps.storeA ?_)
      exact ⟨d.los.length - (i + 1), by omega, rfl, _, i + 1, by omega, rfl, holds.over ⟨rfl, rfl, trivial⟩⟩
    · rw [hok.hiNo hmore] at hhi
      repeat (first | refine LOps.valH (LVal.call rfl rfl (by rw [hP]; exact Try.func15) rfl (by decide) (hat)) ?_ | refine LOps.valH (LVal.call rfl rfl (by rw [hP]; exact Try.func16) rfl (by decide) (hhi)) ?_ | refine LOps.valH (LVal.call rfl rfl (by rw [hP]; exact Try.func13) rfl (by decide) (hff)) ?_ | refine LOps.valH (LVal.call rfl rfl (by rw [hP]; exact Try.func14) rfl (by decide) (hln)) ?_ | refine LWp.condF rfl ?_ | refine LOps.valH (LVal.to (LVal.binOp hD rfl rfl rfl rfl) (r' := .one (.v (.bool true))) (congrArg (fun b => TV.one (.v (.bool b))) (by first | exact decide_eq_true (by omega) | (rw [beq_iff_eq]; omega) | (rw [bne_iff_ne]; omega)))) ?_ | refine LOps.valH (LVal.to (LVal.binOp hD rfl rfl rfl rfl) (r' := .one (.v (.bool false))) (congrArg (fun b => TV.one (.v (.bool b))) (by first | exact decide_eq_false (by omega) | (rw [beq_eq_false_iff_ne]; omega) | (rw [bne_eq_false_iff_eq]; omega)))) ?_ | refine LOps.valW ?_ | refine LOps.nil ?_ | refine andThen_normal ?_ | refine andThen_exit ?_ | refine andThen_ret ?_ | refine inBlock_normal ?_ | refine inBlock_ret ?_ | refine inBlock_here ?_ | refine inBlock_out rfl ?_ | refine LWp.seq ?_ | refine LWp.region ?_ | refine LWp.block ?_ | refine LWp.exit ?_ | refine LWp.ret ?_ | refine LWp.skip ?_ | refine LOps.val (LVal.call rfl rfl (by rw [hP]; exact Try.func15) rfl (by decide) (hat)) rfl rfl rfl ?_ | refine LOps.val (LVal.call rfl rfl (by rw [hP]; exact Try.func16) rfl (by decide) (hhi)) rfl rfl rfl ?_ | refine LOps.val (LVal.call rfl rfl (by rw [hP]; exact Try.func13) rfl (by decide) (hff)) rfl rfl rfl ?_ | refine LOps.val (LVal.call rfl rfl (by rw [hP]; exact Try.func14) rfl (by decide) (hln)) rfl rfl rfl ?_ | refine LOps.whenC (LVal.call rfl rfl (by rw [hP]; exact Try.func15) rfl (by decide) (hat)) ?_ | refine LOps.whenC (LVal.call rfl rfl (by rw [hP]; exact Try.func16) rfl (by decide) (hhi)) ?_ | refine LOps.whenC (LVal.call rfl rfl (by rw [hP]; exact Try.func13) rfl (by decide) (hff)) ?_ | refine LOps.whenC (LVal.call rfl rfl (by rw [hP]; exact Try.func14) rfl (by decide) (hln)) ?_ | refine LOps.valA ?_ | refine LOps.outA ?_ | refine LOps.whenA ?_ | refine LOps.pickA ?_ | refine LOps.storeA ?_)
      exact ⟨d.los.length - (i + 1), by omega, rfl, _, i + 1, by omega, rfl, holds.over ⟨rfl, rfl, trivial⟩⟩
  · repeat (first | refine LOps.nil ?_ | refine andThen_normal ?_ | refine andThen_exit ?_ | refine andThen_ret ?_ | refine inBlock_normal ?_ | refine inBlock_ret ?_ | refine inBlock_here ?_ | refine inBlock_out rfl ?_ | refine LWp.seq ?_ | refine LWp.region ?_ | refine LWp.block ?_ | refine LWp.exit ?_ | refine LWp.ret ?_ | refine LWp.skip ?_ | refine LOps.val (LVal.call rfl rfl (by rw [hP]; exact Try.func10) rfl (by decide) (wakes_F hP)) rfl rfl rfl ?_ | refine LOps.whenC (LVal.call rfl rfl (by rw [hP]; exact Try.func10) rfl (by decide) (wakes_F hP)) ?_ | refine LOps.valA ?_ | refine LOps.outA ?_ | refine LOps.whenA ?_ | refine LOps.pickA ?_ | refine LOps.storeA ?_)
    exact ⟨_, LRes.one rfl, rfl⟩
end Go.Proofs.Ytkjbdldjfjkneaa.LF

namespace Go.Proofs.Ytkjbdldjfjkneaa
open Go.RowKit LF
theorem dirRises_walk (W : World) (v0 : Value) (l0 : List LV) (y0 : Typed LF.D 22 l0) (g0 : RepT (G0 Try.prog W) W (allCells W) (argTV ti22 l0) v0) (v1 : Value) (l1 : List LV) (y1 : Typed LF.D 9 l1) (g1 : RepT (G0 Try.prog W) W (allCells W) (argTV ti9 l1) v1) (v2 : Value) (l2 : List LV) (y2 : Typed LF.D 9 l2) (g2 : RepT (G0 Try.prog W) W (allCells W) (argTV ti9 l2) v2) :
    Calls Try.prog 5 #[v0, v1, v2] W fun e W' => e = .returned (.bool true) ∧ Below W.heap.size W W' := by
  obtain ⟨xs, rfl, hx⟩ := typed_acts y0
  obtain ⟨a, rfl, _⟩ := typed_str rfl rfl y1
  obtain ⟨b, rfl, _⟩ := typed_str rfl rfl y2
  exact law_calls (fun G S h => rises_L h xs hx a b S) (.cons (vs := [v1, v2]) g0 (.cons (vs := [v2]) g1 (.cons (vs := []) g2 .nil)))
end Go.Proofs.Ytkjbdldjfjkneaa
