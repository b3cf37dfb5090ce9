/- DirBack: the plain law and the walk. -/
import Derived.Test.YtkjbdldjfjkneaaLDn
set_option linter.unusedVariables false
set_option linter.unusedSimpArgs false
namespace Go.Proofs.Ytkjbdldjfjkneaa.LF
open Go.RowKit
set_option linter.unusedVariables false

theorem cut_in {α : Type} {l : List α} {k : Nat} (h : k < l.length) : l.take k ++ [l[k]] ++ l.drop (k + 1) = l := by
  have : l.take k ++ [l[k]] = l.take (k + 1) := by rw [List.take_add_one, List.getElem?_eq_getElem h]; rfl
  rw [this, List.take_append_drop]
theorem mid_at {α : Type} {l : List α} {k j : Nat} {x : α} (h : k < l.length) (hj : j < l.length) : (l.take k ++ [x] ++ l.drop (k + 1))[j]? = some (if j = k then x else l[j]) := by
  have hk : (l.take k).length = k := by rw [List.length_take]; omega
  rcases Nat.lt_trichotomy j k with h1 | h1 | h1
  · rw [if_neg (by omega), List.append_assoc, List.getElem?_append_left (by omega), List.getElem?_take, if_pos h1, List.getElem?_eq_getElem hj]
  · subst h1
    rw [if_pos rfl, List.append_assoc, List.getElem?_append_right (by omega), hk]; simp
  · rw [if_neg (by omega), List.getElem?_append_right (by simp; omega), List.getElem?_drop]
    have : k + 1 + (j - (l.take k ++ [x]).length) = j := by simp; omega
    rw [this, List.getElem?_eq_getElem hj]

theorem back_plain {d s : Dv Int} (hok : Okd d) {i : Int} {at' : ByteArray} (ha : at'.size ≤ 60) (h : splitDI (some d) i at' (-1) (-2) = (some s, 0)) :
    Okd s ∧ s.los.length = d.los.length + 1 ∧ ∃ k : Nat, i = (k : Nat) ∧ k < d.los.length ∧ s.los[k + 1]? = some at' ∧ s.xs[k + 1]? = some (-2) ∧ mergeDI (some s) i (-3) = (some ⟨d.los, d.xs.take k ++ [-3] ++ d.xs.drop (k + 1)⟩, 0) := by
  have hlen := hok.wf.len
  have hs0 : ∀ x ∈ [(atDI (some d) i).1, at'], x.size ≤ 60 := by
    intro x hx
    simp only [List.mem_cons, List.not_mem_nil, or_false] at hx
    rcases hx with rfl | rfl
    · exact atD_short hok i
    · exact ha
  unfold splitDI at h
  rcases repD_cases hok i 1 hs0 [-1, -2] with h1 | h1 | ⟨s', h1, h2, h3, h4, _⟩
  · rw [h1] at h; injection h with h _; cases h
  · rw [h1] at h; injection h with h _; cases h
  rw [h1] at h
  injection h with h _
  injection h with h
  subst h
  obtain ⟨f1, f2, f3, f4, f5, f6, f7⟩ := h4
  obtain ⟨k, rfl⟩ : ∃ k : Nat, i = k := ⟨i.toNat, by omega⟩
  have hk : k < d.los.length := by omega
  have hkx : k < d.xs.length := by omega
  have hlo : (atDI (some d) (k : Int)).1 = d.los[k] := by
    simp only [atDI]
    rw [if_pos (by omega)]
    show d.los.getD (k : Int).toNat noBytes = _
    rw [Int.toNat_natCast, getD_at hk]
  rw [hlo] at h3
  have e1 : ((1 : Int)).toNat = 1 := rfl
  rw [Int.toNat_natCast, e1] at h3
  have hA : (d.los.take k).length = k := by rw [List.length_take]; omega
  have hX : (d.xs.take k).length = k := by rw [List.length_take]; omega
  have el : s'.los = d.los.take k ++ ([d.los[k], at'] ++ d.los.drop (k + 1)) := by rw [h3]; simp [Dv.rep]
  have ex : s'.xs = d.xs.take k ++ ([-1, -2] ++ d.xs.drop (k + 1)) := by rw [h3]; simp [Dv.rep]
  have hsl : s'.los.length = d.los.length + 1 := by rw [el]; simp; omega
  have hsk : s'.los[k]? = some d.los[k] := by rw [el, List.getElem?_append_right (by omega), hA]; simp
  have hsk1 : s'.los[k + 1]? = some at' := by rw [el, List.getElem?_append_right (by omega), hA]; simp
  have hxk1 : s'.xs[k + 1]? = some (-2) := by rw [ex, List.getElem?_append_right (by omega), hX]; simp
  refine ⟨h2, hsl, k, rfl, hk, hsk1, hxk1, ?_⟩
  have hks : k < s'.los.length := by omega
  have hgk : s'.los[k] = d.los[k] := by
    rw [List.getElem?_eq_getElem hks] at hsk; exact Option.some.inj hsk
  have hlo2 : (atDI (some s') (k : Int)).1 = d.los[k] := by
    simp only [atDI]
    rw [if_pos (by omega)]
    show s'.los.getD (k : Int).toNat noBytes = _
    rw [Int.toNat_natCast, getD_at hks, hgk]
  have hfit : s'.fit (k : Int) 2 [d.los[k]] := by
    refine ⟨by omega, by omega, by omega, by simp, ?_, fun j hj => by simp at hj, fun h => ?_⟩
    · rw [Int.toNat_natCast, getD_at hks, hgk]; rfl
    · have e2 : ((k : Int) + 2).toNat = k + 2 := by omega
      rw [e2] at h ⊢
      rw [getD_at h]
      have := h2.wf.rises k (k + 2) (by omega) h
      rw [hgk] at this
      exact this
  have hfew := hok.few
  show s'.replace (k : Int) 2 [(atDI (some s') (k : Int)).1] [-3] = _
  rw [hlo2]
  have hl1 : ¬ ((s'.los.length : Int) - 2 + ([d.los[k]] : List ByteArray).length > 16) := by simp only [List.length_singleton]; omega
  simp only [Dv.replace]
  rw [if_pos ⟨rfl, hfit⟩, if_neg hl1]
  have e2 : ((2 : Int)).toNat = 2 := rfl
  rw [Int.toNat_natCast, e2]
  have t1 : s'.los.take k = d.los.take k := by rw [el]; exact List.take_left' hA
  have t2 : s'.xs.take k = d.xs.take k := by rw [ex]; exact List.take_left' hX
  have t3 : s'.los.drop (k + 2) = d.los.drop (k + 1) := by rw [el, ← List.append_assoc]; exact List.drop_left' (by simp; omega)
  have t4 : s'.xs.drop (k + 2) = d.xs.drop (k + 1) := by rw [ex, ← List.append_assoc]; exact List.drop_left' (by simp; omega)
  simp only [Dv.rep, t1, t2, t3, t4]
  rw [cut_in hk]

set_option maxHeartbeats 16000000 in
set_option maxRecDepth 20000 in
theorem back_L {G : Ctx} (hP : G.P = Try.prog) (l : List ActV) (hkind : ∀ a ∈ l, 0 ≤ a.kind ∧ a.kind < 256) (i : Int) (at' : ByteArray) (S : LS) : LCalls G 8 [.one (.sl .sh (l.map actL)), .one (iv i), .one (sv at')] (fun r _ => r = .one (bv true)) S := by
  have hD : TabOK G.P D := by rw [hP]; exact hD0
  have hml : (l.map actL).length = l.length := List.length_map ..
  refine LCalls.enter (fn := Try.f8) (by rw [hP]; exact Try.func8) rfl rfl ?_
  repeat (first | refine LOps.nil ?_ | refine andThen_normal ?_ | refine andThen_exit ?_ | refine andThen_ret ?_ | refine inBlock_normal ?_ | refine inBlock_ret ?_ | refine inBlock_here ?_ | refine inBlock_out rfl ?_ | refine LWp.seq ?_ | refine LWp.region ?_ | refine LWp.block ?_ | refine LWp.exit ?_ | refine LWp.ret ?_ | refine LWp.skip ?_ | refine LOps.val (LVal.call rfl rfl (by rw [hP]; exact Try.func9) rfl (by decide) (great_F hP l)) rfl rfl rfl ?_ | refine LOps.whenC (LVal.call rfl rfl (by rw [hP]; exact Try.func9) rfl (by decide) (great_F hP l)) ?_ | refine LOps.valA ?_ | refine LOps.outA ?_ | refine LOps.whenA ?_ | refine LOps.pickA ?_ | refine LOps.storeA ?_)
  refine LWp.cond rfl (fun h => ?_) (fun h => ?_)
  · repeat (first | refine LOps.nil ?_ | refine andThen_normal ?_ | refine andThen_exit ?_ | refine andThen_ret ?_ | refine inBlock_normal ?_ | refine inBlock_ret ?_ | refine inBlock_here ?_ | refine inBlock_out rfl ?_ | refine LWp.seq ?_ | refine LWp.region ?_ | refine LWp.block ?_ | refine LWp.exit ?_ | refine LWp.ret ?_ | refine LWp.skip ?_ | refine LOps.val (LVal.call rfl rfl (by rw [hP]; exact Try.func10) rfl (by decide) (wakes_F hP)) rfl rfl rfl ?_ | refine LOps.whenC (LVal.call rfl rfl (by rw [hP]; exact Try.func10) rfl (by decide) (wakes_F hP)) ?_ | refine LOps.valA ?_ | refine LOps.outA ?_ | refine LOps.whenA ?_ | refine LOps.pickA ?_ | refine LOps.storeA ?_)
    exact ⟨_, LRes.one rfl, rfl⟩
  have h : (greatA l || decide ((at'.size : Int) > 60)) = false := h
  rw [Bool.or_eq_false_iff, decide_eq_false_iff_not] at h
  obtain ⟨hl, hall⟩ := greatA_no h.1
  have hks : at'.size ≤ 60 := by have := h.2; omega
  clear h
  have hall2 := List.all_eq_true.1 hall
  have hrun := runA_ok tenA hall
  repeat (first | refine LWp.seq (LWp.cut 4 (fun T' S' => S' = S ∧ ∃ T'', T' = over T'' [(1, .one (iv i)), (2, .one (sv at')), (7, dTI (some (runA tenA l l.length)))]) rfl ?_ ?_) | refine LOps.nil ?_ | refine andThen_normal ?_ | refine andThen_exit ?_ | refine andThen_ret ?_ | refine inBlock_normal ?_ | refine inBlock_ret ?_ | refine inBlock_here ?_ | refine inBlock_out rfl ?_ | refine LWp.seq ?_ | refine LWp.region ?_ | refine LWp.block ?_ | refine LWp.exit ?_ | refine LWp.ret ?_ | refine LWp.skip ?_ | refine LOps.val (LVal.call rfl rfl (by rw [hP]; exact Try.func11) rfl (by decide) (newI_F hP 0)) rfl rfl rfl ?_ | refine LOps.whenC (LVal.call rfl rfl (by rw [hP]; exact Try.func11) rfl (by decide) (newI_F hP 0)) ?_ | refine LOps.valA ?_ | refine LOps.outA ?_ | refine LOps.whenA ?_ | refine LOps.pickA ?_ | refine LOps.storeA ?_)
  · repeat (first | refine LOps.nil ?_ | refine andThen_normal ?_ | refine andThen_exit ?_ | refine andThen_ret ?_ | refine inBlock_normal ?_ | refine inBlock_ret ?_ | refine inBlock_here ?_ | refine inBlock_out rfl ?_ | refine LWp.seq ?_ | refine LWp.region ?_ | refine LWp.block ?_ | refine LWp.exit ?_ | refine LWp.ret ?_ | refine LWp.skip ?_ | refine LOps.valA ?_ | refine LOps.outA ?_ | refine LOps.whenA ?_ | refine LOps.pickA ?_ | refine LOps.storeA ?_)
    refine LWp.loop (fun m T S' => S' = S ∧ ∃ (T' : Nat → TV) (j : Nat), j ≤ l.length ∧ m = l.length - j ∧ T = over T' [(0, .one (.sl .sh (l.map actL))), (1, .one (iv i)), (2, .one (sv at')), (7, dTI (some (runA tenA l j))), (8, .one (iv (j : Nat)))]) l.length ?_ ?_
    · exact ⟨rfl, _, 0, by omega, rfl, holds.over ⟨rfl, rfl, rfl, rfl, rfl, trivial⟩⟩
    rintro m T S1 ⟨rfl, T', j, hj, rfl, rfl⟩
    repeat (first | refine LOps.nil ?_ | refine andThen_normal ?_ | refine andThen_exit ?_ | refine andThen_ret ?_ | refine inBlock_normal ?_ | refine inBlock_ret ?_ | refine inBlock_here ?_ | refine inBlock_out rfl ?_ | refine LWp.seq ?_ | refine LWp.region ?_ | refine LWp.block ?_ | refine LWp.exit ?_ | refine LWp.ret ?_ | refine LWp.skip ?_ | refine LOps.valA ?_ | refine LOps.outA ?_ | refine LOps.whenA ?_ | refine LOps.pickA ?_ | refine LOps.storeA ?_)
    refine LWp.cond rfl (fun h => ?_) (fun h => ?_)
    · have hlt : j < l.length := by
        have h : decide ((j : Int) < ((l.map actL).length : Int)) = true := h
        rw [decide_eq_true_iff] at h; omega
      have hm := List.getElem_mem hlt
      have hag := again_F hP (runA tenA l j) (hrun j).wf l[j] (hkind _ hm) (okAct_at (hall2 _ hm)).2.1 (tenA j) (by unfold tenA; omega)
      rcases againD_cases (hrun j) (hall2 _ hm) (tenA j) with ⟨e, h1, h2⟩ | ⟨d', h1, h2⟩
      · rw [h1] at hag
        repeat (first | refine LOps.valH (LVal.call rfl rfl (by rw [hP]; exact Try.func12) rfl (by decide) (hag)) ?_ | refine LWp.condF rfl ?_ | refine LOps.valH (LVal.to (LVal.binOp hD rfl rfl rfl rfl) (r' := .one (.v (.bool true))) (congrArg (fun b => TV.one (.v (.bool b))) (by first | exact decide_eq_true (by omega) | (rw [beq_iff_eq]; omega) | (rw [bne_iff_ne]; omega)))) ?_ | refine LOps.valH (LVal.to (LVal.binOp hD rfl rfl rfl rfl) (r' := .one (.v (.bool false))) (congrArg (fun b => TV.one (.v (.bool b))) (by first | exact decide_eq_false (by omega) | (rw [beq_eq_false_iff_ne]; omega) | (rw [bne_eq_false_iff_eq]; omega)))) ?_ | refine LOps.valW ?_ | refine LOps.nil ?_ | refine andThen_normal ?_ | refine andThen_exit ?_ | refine andThen_ret ?_ | refine inBlock_normal ?_ | refine inBlock_ret ?_ | refine inBlock_here ?_ | refine inBlock_out rfl ?_ | refine LWp.seq ?_ | refine LWp.region ?_ | refine LWp.block ?_ | refine LWp.exit ?_ | refine LWp.ret ?_ | refine LWp.skip ?_ | refine LOps.val (LVal.call rfl rfl (by rw [hP]; exact Try.func12) rfl (by decide) (hag)) rfl rfl rfl ?_ | refine LOps.whenC (LVal.call rfl rfl (by rw [hP]; exact Try.func12) rfl (by decide) (hag)) ?_ | refine LOps.valA ?_ | refine LOps.outA ?_ | refine LOps.whenA ?_ | refine LOps.pickA ?_ | refine LOps.storeA ?_)
        exact ⟨l.length - (j + 1), by omega, rfl, _, j + 1, by omega, rfl, holds.over ⟨rfl, rfl, rfl, by rw [runA_succ tenA hlt, actD_no h1 h2]; rfl, rfl, trivial⟩⟩
      · rw [h1] at hag
        repeat (first | refine LOps.valH (LVal.call rfl rfl (by rw [hP]; exact Try.func12) rfl (by decide) (hag)) ?_ | refine LWp.condT rfl ?_ | refine LOps.valH (LVal.to (LVal.binOp hD rfl rfl rfl rfl) (r' := .one (.v (.bool true))) (congrArg (fun b => TV.one (.v (.bool b))) (by first | exact decide_eq_true (by omega) | (rw [beq_iff_eq]; omega) | (rw [bne_iff_ne]; omega)))) ?_ | refine LOps.valH (LVal.to (LVal.binOp hD rfl rfl rfl rfl) (r' := .one (.v (.bool false))) (congrArg (fun b => TV.one (.v (.bool b))) (by first | exact decide_eq_false (by omega) | (rw [beq_eq_false_iff_ne]; omega) | (rw [bne_eq_false_iff_eq]; omega)))) ?_ | refine LOps.valW ?_ | refine LOps.nil ?_ | refine andThen_normal ?_ | refine andThen_exit ?_ | refine andThen_ret ?_ | refine inBlock_normal ?_ | refine inBlock_ret ?_ | refine inBlock_here ?_ | refine inBlock_out rfl ?_ | refine LWp.seq ?_ | refine LWp.region ?_ | refine LWp.block ?_ | refine LWp.exit ?_ | refine LWp.ret ?_ | refine LWp.skip ?_ | refine LOps.val (LVal.call rfl rfl (by rw [hP]; exact Try.func12) rfl (by decide) (hag)) rfl rfl rfl ?_ | refine LOps.whenC (LVal.call rfl rfl (by rw [hP]; exact Try.func12) rfl (by decide) (hag)) ?_ | refine LOps.valA ?_ | refine LOps.outA ?_ | refine LOps.whenA ?_ | refine LOps.pickA ?_ | refine LOps.storeA ?_)
        exact ⟨l.length - (j + 1), by omega, rfl, _, j + 1, by omega, rfl, holds.over ⟨rfl, rfl, rfl, by rw [runA_succ tenA hlt, actD_yes h1]; rfl, rfl, trivial⟩⟩
    · have hge : j = l.length := by
        have h : decide ((j : Int) < ((l.map actL).length : Int)) = false := h
        rw [decide_eq_false_iff_not] at h; omega
      subst hge
      repeat (first | refine LOps.nil ?_ | refine andThen_normal ?_ | refine andThen_exit ?_ | refine andThen_ret ?_ | refine inBlock_normal ?_ | refine inBlock_ret ?_ | refine inBlock_here ?_ | refine inBlock_out rfl ?_ | refine LWp.seq ?_ | refine LWp.region ?_ | refine LWp.block ?_ | refine LWp.exit ?_ | refine LWp.ret ?_ | refine LWp.skip ?_ | refine LOps.valA ?_ | refine LOps.outA ?_ | refine LOps.whenA ?_ | refine LOps.pickA ?_ | refine LOps.storeA ?_)
      exact ⟨rfl, _, holds.over ⟨rfl, rfl, rfl, trivial⟩⟩
  rintro _ S1 ⟨rfl, T1, rfl⟩
  have hok := hrun l.length
  generalize runA tenA l l.length = d at hok
  have hd := hok.wf
  have hfew := hok.few
  repeat (first | refine LOps.nil ?_ | refine andThen_normal ?_ | refine andThen_exit ?_ | refine andThen_ret ?_ | refine inBlock_normal ?_ | refine inBlock_ret ?_ | refine inBlock_here ?_ | refine inBlock_out rfl ?_ | refine LWp.seq ?_ | refine LWp.region ?_ | refine LWp.block ?_ | refine LWp.exit ?_ | refine LWp.ret ?_ | refine LWp.skip ?_ | refine LOps.valA ?_ | refine LOps.outA ?_ | refine LOps.whenA ?_ | refine LOps.pickA ?_ | refine LOps.storeA ?_)
  refine LOps.do (LDo.call rfl rfl (by rw [hP]; exact Try.func34) rfl (by decide) (ranges_L hP d hd _)) rfl rfl rfl ?_
  rintro _ S2 rfl
  have hs := splitI_F hP (some d) (some_wf hd) i at' (-1) (-2)
  have hsc : ∀ x ∈ [(atDI (some d) i).1, at'], x.size ≤ 60 := by
    intro x hx
    simp only [List.mem_cons, List.not_mem_nil, or_false] at hx
    rcases hx with rfl | rfl
    · exact atD_short hok i
    · exact hks
  have herr : ∀ e, e ≠ 0 → splitDI (some d) i at' (-1) (-2) = (none, e) → LFun G 30 [dTI (some d), .one (iv i), .one (sv at'), .one (iv (-1)), .one (iv (-2))] (.tup [dTI none, .one (iv e)]) := fun e _ h => by rw [h] at hs; exact hs
  rcases repD_cases hok i 1 hsc [-1, -2] with h1 | h1 | ⟨s, h1, h2, h3, h4, _⟩
  · have hs := herr 5 (by decide) h1
    repeat (first | refine LOps.valH (LVal.call rfl rfl (by rw [hP]; exact Try.func30) rfl (by decide) (hs)) ?_ | refine LOps.valH (LVal.call rfl rfl (by rw [hP]; exact Try.func10) rfl (by decide) (wakes_F hP)) ?_ | refine LWp.condT rfl ?_ | refine LOps.valH (LVal.to (LVal.binOp hD rfl rfl rfl rfl) (r' := .one (.v (.bool true))) (congrArg (fun b => TV.one (.v (.bool b))) (by first | exact decide_eq_true (by omega) | (rw [beq_iff_eq]; omega) | (rw [bne_iff_ne]; omega)))) ?_ | refine LOps.valH (LVal.to (LVal.binOp hD rfl rfl rfl rfl) (r' := .one (.v (.bool false))) (congrArg (fun b => TV.one (.v (.bool b))) (by first | exact decide_eq_false (by omega) | (rw [beq_eq_false_iff_ne]; omega) | (rw [bne_eq_false_iff_eq]; omega)))) ?_ | refine LOps.valW ?_ | refine LOps.nil ?_ | refine andThen_normal ?_ | refine andThen_exit ?_ | refine andThen_ret ?_ | refine inBlock_normal ?_ | refine inBlock_ret ?_ | refine inBlock_here ?_ | refine inBlock_out rfl ?_ | refine LWp.seq ?_ | refine LWp.region ?_ | refine LWp.block ?_ | refine LWp.exit ?_ | refine LWp.ret ?_ | refine LWp.skip ?_ | refine LOps.val (LVal.call rfl rfl (by rw [hP]; exact Try.func30) rfl (by decide) (hs)) rfl rfl rfl ?_ | refine LOps.val (LVal.call rfl rfl (by rw [hP]; exact Try.func10) rfl (by decide) (wakes_F hP)) rfl rfl rfl ?_ | refine LOps.whenC (LVal.call rfl rfl (by rw [hP]; exact Try.func30) rfl (by decide) (hs)) ?_ | refine LOps.whenC (LVal.call rfl rfl (by rw [hP]; exact Try.func10) rfl (by decide) (wakes_F hP)) ?_ | refine LOps.valA ?_ | refine LOps.outA ?_ | refine LOps.whenA ?_ | refine LOps.pickA ?_ | refine LOps.storeA ?_)
    exact ⟨_, LRes.one rfl, rfl⟩
  · have hs := herr 21 (by decide) h1
    repeat (first | refine LOps.valH (LVal.call rfl rfl (by rw [hP]; exact Try.func30) rfl (by decide) (hs)) ?_ | refine LOps.valH (LVal.call rfl rfl (by rw [hP]; exact Try.func10) rfl (by decide) (wakes_F hP)) ?_ | refine LWp.condT rfl ?_ | refine LOps.valH (LVal.to (LVal.binOp hD rfl rfl rfl rfl) (r' := .one (.v (.bool true))) (congrArg (fun b => TV.one (.v (.bool b))) (by first | exact decide_eq_true (by omega) | (rw [beq_iff_eq]; omega) | (rw [bne_iff_ne]; omega)))) ?_ | refine LOps.valH (LVal.to (LVal.binOp hD rfl rfl rfl rfl) (r' := .one (.v (.bool false))) (congrArg (fun b => TV.one (.v (.bool b))) (by first | exact decide_eq_false (by omega) | (rw [beq_eq_false_iff_ne]; omega) | (rw [bne_eq_false_iff_eq]; omega)))) ?_ | refine LOps.valW ?_ | refine LOps.nil ?_ | refine andThen_normal ?_ | refine andThen_exit ?_ | refine andThen_ret ?_ | refine inBlock_normal ?_ | refine inBlock_ret ?_ | refine inBlock_here ?_ | refine inBlock_out rfl ?_ | refine LWp.seq ?_ | refine LWp.region ?_ | refine LWp.block ?_ | refine LWp.exit ?_ | refine LWp.ret ?_ | refine LWp.skip ?_ | refine LOps.val (LVal.call rfl rfl (by rw [hP]; exact Try.func30) rfl (by decide) (hs)) rfl rfl rfl ?_ | refine LOps.val (LVal.call rfl rfl (by rw [hP]; exact Try.func10) rfl (by decide) (wakes_F hP)) rfl rfl rfl ?_ | refine LOps.whenC (LVal.call rfl rfl (by rw [hP]; exact Try.func30) rfl (by decide) (hs)) ?_ | refine LOps.whenC (LVal.call rfl rfl (by rw [hP]; exact Try.func10) rfl (by decide) (wakes_F hP)) ?_ | refine LOps.valA ?_ | refine LOps.outA ?_ | refine LOps.whenA ?_ | refine LOps.pickA ?_ | refine LOps.storeA ?_)
    exact ⟨_, LRes.one rfl, rfl⟩
  have h1' : splitDI (some d) i at' (-1) (-2) = (some s, 0) := h1
  rw [h1'] at hs
  clear herr h1 h2 h3 h4 hsc
  obtain ⟨hoks, hsl, k, rfl, hk, hs1, hs2, hmg⟩ := back_plain hok hks h1'
  have hm := mergeI_F hP (some s) (some_wf hoks.wf) (k : Nat) (-3)
  obtain ⟨X3, hX3⟩ : ∃ X, X = d.xs.take k ++ [-3] ++ d.xs.drop (k + 1) := ⟨_, rfl⟩
  rw [← hX3] at hmg
  rw [hmg] at hm
  have hkx : k < d.xs.length := by rw [← hd.len]; exact hk
  have hmx : X3.length = d.xs.length := by rw [hX3]; simp; omega
  have hmw : (⟨d.los, X3⟩ : Dv Int).wf := ⟨by rw [hmx]; exact hd.len, hd.small, hd.rises, hd.first⟩
  have hmat : ∀ (j : Nat) (hj : j < d.xs.length), X3[j]'(by omega) = if j = k then -3 else d.xs[j] := fun j hj => by
    have := mid_at (l := d.xs) (k := k) (j := j) (x := -3) hkx hj
    rw [← hX3, List.getElem?_eq_getElem (by omega)] at this
    exact Option.some.inj this
  clear hX3
  have l1 : LFun G 14 [dTI (some d)] (.one (iv (d.los.length : Nat))) := lenI_F hP (some d)
  have l2 : LFun G 14 [dTI (some s)] (.one (iv (s.los.length : Nat))) := lenI_F hP (some s)
  have l3 : LFun G 14 [dTI (some ⟨d.los, X3⟩)] (.one (iv (d.los.length : Nat))) := lenI_F hP (some ⟨d.los, X3⟩)
  have hk1 : k + 1 < s.los.length := by omega
  have hk1x : k + 1 < s.xs.length := by rw [← hoks.wf.len]; exact hk1
  have hsa : s.los[k + 1] = at' := by rw [List.getElem?_eq_getElem hk1] at hs1; exact Option.some.inj hs1
  have hsx : s.xs[k + 1] = -2 := by rw [List.getElem?_eq_getElem hk1x] at hs2; exact Option.some.inj hs2
  have hff := findI_F hP (some s) (some_wf hoks.wf) at'
  have hfd : findDI (some s) at' = (((k + 1 : Nat) : Int), -2) := by
    have hsp : s.spot at' = k + 1 := by rw [← hsa]; exact hoks.wf.spot_at hk1
    simp only [findDI, hsp]; simp [hk1x, hsx]
  rw [hfd] at hff
  have m1 : (d.los.map sL).length = d.los.length := List.length_map ..
  have m2 : (d.xs.map iL).length = d.los.length := by rw [List.length_map, hd.len]
  have m3 : (X3.map iL).length = d.los.length := by rw [List.length_map, hmx, hd.len]
  repeat (first | refine LOps.valH (LVal.call rfl rfl (by rw [hP]; exact Try.func30) rfl (by decide) (hs)) ?_ | refine LOps.valH (LVal.call rfl rfl (by rw [hP]; exact Try.func31) rfl (by decide) (hm)) ?_ | refine LOps.valH (LVal.call rfl rfl (by rw [hP]; exact Try.func14) rfl (by decide) (l1)) ?_ | refine LOps.valH (LVal.call rfl rfl (by rw [hP]; exact Try.func14) rfl (by decide) (l2)) ?_ | refine LOps.valH (LVal.call rfl rfl (by rw [hP]; exact Try.func14) rfl (by decide) (l3)) ?_ | refine LWp.condF rfl ?_ | refine LOps.valH (LVal.to (LVal.binOp hD rfl rfl rfl rfl) (r' := .one (.v (.bool true))) (congrArg (fun b => TV.one (.v (.bool b))) (by first | exact decide_eq_true (by omega) | (rw [beq_iff_eq]; omega) | (rw [bne_iff_ne]; omega)))) ?_ | refine LOps.valH (LVal.to (LVal.binOp hD rfl rfl rfl rfl) (r' := .one (.v (.bool false))) (congrArg (fun b => TV.one (.v (.bool b))) (by first | exact decide_eq_false (by omega) | (rw [beq_eq_false_iff_ne]; omega) | (rw [bne_eq_false_iff_eq]; omega)))) ?_ | refine LOps.valW ?_ | refine LOps.nil ?_ | refine andThen_normal ?_ | refine andThen_exit ?_ | refine andThen_ret ?_ | refine inBlock_normal ?_ | refine inBlock_ret ?_ | refine inBlock_here ?_ | refine inBlock_out rfl ?_ | refine LWp.seq ?_ | refine LWp.region ?_ | refine LWp.block ?_ | refine LWp.exit ?_ | refine LWp.ret ?_ | refine LWp.skip ?_ | refine LOps.val (LVal.call rfl rfl (by rw [hP]; exact Try.func30) rfl (by decide) (hs)) rfl rfl rfl ?_ | refine LOps.val (LVal.call rfl rfl (by rw [hP]; exact Try.func31) rfl (by decide) (hm)) rfl rfl rfl ?_ | refine LOps.val (LVal.call rfl rfl (by rw [hP]; exact Try.func14) rfl (by decide) (l1)) rfl rfl rfl ?_ | refine LOps.val (LVal.call rfl rfl (by rw [hP]; exact Try.func14) rfl (by decide) (l2)) rfl rfl rfl ?_ | refine LOps.val (LVal.call rfl rfl (by rw [hP]; exact Try.func14) rfl (by decide) (l3)) rfl rfl rfl ?_ | refine LOps.whenC (LVal.call rfl rfl (by rw [hP]; exact Try.func30) rfl (by decide) (hs)) ?_ | refine LOps.whenC (LVal.call rfl rfl (by rw [hP]; exact Try.func31) rfl (by decide) (hm)) ?_ | refine LOps.whenC (LVal.call rfl rfl (by rw [hP]; exact Try.func14) rfl (by decide) (l1)) ?_ | refine LOps.whenC (LVal.call rfl rfl (by rw [hP]; exact Try.func14) rfl (by decide) (l2)) ?_ | refine LOps.whenC (LVal.call rfl rfl (by rw [hP]; exact Try.func14) rfl (by decide) (l3)) ?_ | refine LOps.valA ?_ | refine LOps.outA ?_ | refine LOps.whenA ?_ | refine LOps.pickA ?_ | refine LOps.storeA ?_)
  refine LOps.do (LDo.call rfl rfl (by rw [hP]; exact Try.func34) rfl (by decide) (ranges_L hP ⟨d.los, X3⟩ hmw _)) rfl rfl rfl ?_
  rintro _ S3 rfl
  repeat (first | refine LOps.nil ?_ | refine andThen_normal ?_ | refine andThen_exit ?_ | refine andThen_ret ?_ | refine inBlock_normal ?_ | refine inBlock_ret ?_ | refine inBlock_here ?_ | refine inBlock_out rfl ?_ | refine LWp.seq ?_ | refine LWp.region ?_ | refine LWp.block ?_ | refine LWp.exit ?_ | refine LWp.ret ?_ | refine LWp.skip ?_ | refine LOps.valA ?_ | refine LOps.outA ?_ | refine LOps.whenA ?_ | refine LOps.pickA ?_ | refine LOps.storeA ?_)
  refine LOps.do (LDo.call rfl rfl (by rw [hP]; exact Try.func34) rfl (by decide) (ranges_L hP d hd _)) rfl rfl rfl ?_
  rintro _ S4 rfl
  repeat (first | refine LWp.condF rfl ?_ | refine LOps.valH (LVal.to (LVal.binOp hD rfl rfl rfl rfl) (r' := .one (.v (.bool true))) (congrArg (fun b => TV.one (.v (.bool b))) (by first | exact decide_eq_true (by omega) | (rw [beq_iff_eq]; omega) | (rw [bne_iff_ne]; omega)))) ?_ | refine LOps.valH (LVal.to (LVal.binOp hD rfl rfl rfl rfl) (r' := .one (.v (.bool false))) (congrArg (fun b => TV.one (.v (.bool b))) (by first | exact decide_eq_false (by omega) | (rw [beq_eq_false_iff_ne]; omega) | (rw [bne_eq_false_iff_eq]; omega)))) ?_ | refine LOps.valW ?_ | refine LOps.nil ?_ | refine andThen_normal ?_ | refine andThen_exit ?_ | refine andThen_ret ?_ | refine inBlock_normal ?_ | refine inBlock_ret ?_ | refine inBlock_here ?_ | refine inBlock_out rfl ?_ | refine LWp.seq ?_ | refine LWp.region ?_ | refine LWp.block ?_ | refine LWp.exit ?_ | refine LWp.ret ?_ | refine LWp.skip ?_ | refine LOps.valA ?_ | refine LOps.outA ?_ | refine LOps.whenA ?_ | refine LOps.pickA ?_ | refine LOps.storeA ?_)
  refine LWp.loop (fun m T S' => S' = S4 ∧ ∃ (T' : Nat → TV) (j : Nat), j ≤ d.los.length ∧ m = d.los.length - j ∧ T = over T' [(1, .one (iv (k : Nat))), (2, .one (sv at')), (11, .one (.sl .sh (d.los.map sL))), (12, .one (.sl .sh (d.xs.map iL))), (13, dTI (some s)), (17, .one (.sl .sh (d.los.map sL))), (18, .one (.sl .sh (X3.map iL))), (19, .one (.sl .sh (d.los.map sL))), (20, .one (.sl .sh (d.xs.map iL))), (21, .one (iv (j : Nat)))]) d.los.length ?_ ?_
  · exact ⟨rfl, _, 0, by omega, rfl, holds.over ⟨rfl, rfl, rfl, rfl, rfl, rfl, rfl, rfl, rfl, rfl, trivial⟩⟩
  rintro m T S5 ⟨rfl, T', j, hj, rfl, rfl⟩
  repeat (first | refine LOps.nil ?_ | refine andThen_normal ?_ | refine andThen_exit ?_ | refine andThen_ret ?_ | refine inBlock_normal ?_ | refine inBlock_ret ?_ | refine inBlock_here ?_ | refine inBlock_out rfl ?_ | refine LWp.seq ?_ | refine LWp.region ?_ | refine LWp.block ?_ | refine LWp.exit ?_ | refine LWp.ret ?_ | refine LWp.skip ?_ | refine LOps.valA ?_ | refine LOps.outA ?_ | refine LOps.whenA ?_ | refine LOps.pickA ?_ | refine LOps.storeA ?_)
  refine LWp.cond rfl (fun h => ?_) (fun h => ?_)
  · have hlt : j < d.los.length := by
      have h : decide ((j : Int) < ((d.los.map sL).length : Int)) = true := h
      rw [decide_eq_true_iff] at h; omega
    clear h
    have hx1 : j < d.xs.length := by rw [← hd.len]; exact hlt
    have hx3 : j < X3.length := by rw [hmx]; exact hx1
    have hv := hmat j hx1
    by_cases hjk : j = k
    · rw [if_pos hjk] at hv
      repeat (first | refine LOps.nil ?_ | refine andThen_normal ?_ | refine andThen_exit ?_ | refine andThen_ret ?_ | refine inBlock_normal ?_ | refine inBlock_ret ?_ | refine inBlock_here ?_ | refine inBlock_out rfl ?_ | refine LWp.seq ?_ | refine LWp.region ?_ | refine LWp.block ?_ | refine LWp.exit ?_ | refine LWp.ret ?_ | refine LWp.skip ?_ | refine LOps.valA ?_ | refine LOps.outA ?_ | refine LOps.whenA ?_ | refine LOps.pickA ?_ | refine LOps.storeA ?_)
      refine LWp.drawL [0, 1, 2, 3, 4, 5, 6, 7, 8, 9, 10, 11, 12, 13, 14, 15, 16, 17, 18, 19, 20, 21, 22, 23, 24, 25, 26, 27, 28, 29, 30, 31, 32, 33, 34, 35, 36, 37, 38, 39, 40, 41, 42, 43, 44, 45, 46, 47, 48, 49, 50, 51, 52, 53, 54, 55, 56, 57, 58] (by rw [hP]; rfl) rfl ?_
      repeat (first | refine LRl.valH (LVal.to (LVal.neqStr rfl rfl rfl) (r' := .one (bv false)) (by simp)) ?_ (fun _ _ => LVal.to (LVal.neqStr rfl rfl rfl) (by simp)) | refine LRl.val (fun _ _ => LVal.to (LVal.binOp hD rfl rfl rfl rfl) (r' := .one (.v (.bool true))) (congrArg (fun b => TV.one (.v (.bool b))) (by first | exact decide_eq_true (by omega) | (rw [beq_iff_eq]; omega) | (rw [bne_iff_ne]; omega)))) rfl rfl rfl ?_ | refine LRl.val (fun _ _ => LVal.to (LVal.binOp hD rfl rfl rfl rfl) (r' := .one (.v (.bool false))) (congrArg (fun b => TV.one (.v (.bool b))) (by first | exact decide_eq_false (by omega) | (rw [beq_eq_false_iff_ne]; omega) | (rw [bne_eq_false_iff_eq]; omega)))) rfl rfl rfl ?_ | refine LRl.valW ?_ | refine LRl.nil ?_ | refine LRl.valA ?_ | refine LRl.outA ?_ | refine LRl.whenA ?_ | refine LRl.pickA ?_)
      repeat (first | refine LWp.condF rfl ?_ | refine LOps.valH (LVal.to (LVal.binOp hD rfl rfl rfl rfl) (r' := .one (.v (.bool true))) (congrArg (fun b => TV.one (.v (.bool b))) (by first | exact decide_eq_true (by omega) | (rw [beq_iff_eq]; omega) | (rw [bne_iff_ne]; omega)))) ?_ | refine LOps.valH (LVal.to (LVal.binOp hD rfl rfl rfl rfl) (r' := .one (.v (.bool false))) (congrArg (fun b => TV.one (.v (.bool b))) (by first | exact decide_eq_false (by omega) | (rw [beq_eq_false_iff_ne]; omega) | (rw [bne_eq_false_iff_eq]; omega)))) ?_ | refine LOps.valW ?_ | refine LOps.nil ?_ | refine andThen_normal ?_ | refine andThen_exit ?_ | refine andThen_ret ?_ | refine inBlock_normal ?_ | refine inBlock_ret ?_ | refine inBlock_here ?_ | refine inBlock_out rfl ?_ | refine LWp.seq ?_ | refine LWp.region ?_ | refine LWp.block ?_ | refine LWp.exit ?_ | refine LWp.ret ?_ | refine LWp.skip ?_ | refine LOps.valA ?_ | refine LOps.outA ?_ | refine LOps.whenA ?_ | refine LOps.pickA ?_ | refine LOps.storeA ?_)
      exact ⟨d.los.length - (j + 1), by omega, rfl, _, j + 1, by omega, rfl, holds.over ⟨rfl, rfl, rfl, rfl, rfl, rfl, rfl, rfl, rfl, rfl, trivial⟩⟩
    · rw [if_neg hjk] at hv
      repeat (first | refine LOps.nil ?_ | refine andThen_normal ?_ | refine andThen_exit ?_ | refine andThen_ret ?_ | refine inBlock_normal ?_ | refine inBlock_ret ?_ | refine inBlock_here ?_ | refine inBlock_out rfl ?_ | refine LWp.seq ?_ | refine LWp.region ?_ | refine LWp.block ?_ | refine LWp.exit ?_ | refine LWp.ret ?_ | refine LWp.skip ?_ | refine LOps.valA ?_ | refine LOps.outA ?_ | refine LOps.whenA ?_ | refine LOps.pickA ?_ | refine LOps.storeA ?_)
      refine LWp.drawL [0, 1, 2, 3, 4, 5, 6, 7, 8, 9, 10, 11, 12, 13, 14, 15, 16, 17, 18, 19, 20, 21, 22, 23, 24, 25, 26, 27, 28, 29, 30, 31, 32, 33, 34, 35, 36, 37, 38, 39, 40, 41, 42, 43, 44, 45, 46, 47, 48, 49, 50, 51, 52, 53, 54, 55, 56, 57, 58] (by rw [hP]; rfl) rfl ?_
      repeat (first | refine LRl.valH (LVal.to (LVal.neqStr rfl rfl rfl) (r' := .one (bv false)) (by simp)) ?_ (fun _ _ => LVal.to (LVal.neqStr rfl rfl rfl) (by simp)) | refine LRl.val (fun _ _ => LVal.to (LVal.binOp hD rfl rfl rfl rfl) (r' := .one (.v (.bool true))) (congrArg (fun b => TV.one (.v (.bool b))) (by first | exact decide_eq_true (by omega) | (rw [beq_iff_eq]; omega) | (rw [bne_iff_ne]; omega)))) rfl rfl rfl ?_ | refine LRl.val (fun _ _ => LVal.to (LVal.binOp hD rfl rfl rfl rfl) (r' := .one (.v (.bool false))) (congrArg (fun b => TV.one (.v (.bool b))) (by first | exact decide_eq_false (by omega) | (rw [beq_eq_false_iff_ne]; omega) | (rw [bne_eq_false_iff_eq]; omega)))) rfl rfl rfl ?_ | refine LRl.valW ?_ | refine LRl.nil ?_ | refine LRl.valA ?_ | refine LRl.outA ?_ | refine LRl.whenA ?_ | refine LRl.pickA ?_)
      repeat (first | refine LWp.condF rfl ?_ | refine LOps.valH (LVal.to (LVal.binOp hD rfl rfl rfl rfl) (r' := .one (.v (.bool true))) (congrArg (fun b => TV.one (.v (.bool b))) (by first | exact decide_eq_true (by omega) | (rw [beq_iff_eq]; omega) | (rw [bne_iff_ne]; omega)))) ?_ | refine LOps.valH (LVal.to (LVal.binOp hD rfl rfl rfl rfl) (r' := .one (.v (.bool false))) (congrArg (fun b => TV.one (.v (.bool b))) (by first | exact decide_eq_false (by omega) | (rw [beq_eq_false_iff_ne]; omega) | (rw [bne_eq_false_iff_eq]; omega)))) ?_ | refine LOps.valW ?_ | refine LOps.nil ?_ | refine andThen_normal ?_ | refine andThen_exit ?_ | refine andThen_ret ?_ | refine inBlock_normal ?_ | refine inBlock_ret ?_ | refine inBlock_here ?_ | refine inBlock_out rfl ?_ | refine LWp.seq ?_ | refine LWp.region ?_ | refine LWp.block ?_ | refine LWp.exit ?_ | refine LWp.ret ?_ | refine LWp.skip ?_ | refine LOps.valA ?_ | refine LOps.outA ?_ | refine LOps.whenA ?_ | refine LOps.pickA ?_ | refine LOps.storeA ?_)
      exact ⟨d.los.length - (j + 1), by omega, rfl, _, j + 1, by omega, rfl, holds.over ⟨rfl, rfl, rfl, rfl, rfl, rfl, rfl, rfl, rfl, rfl, trivial⟩⟩
  · have hge : j = d.los.length := by
      have h : decide ((j : Int) < ((d.los.map sL).length : Int)) = false := h
      rw [decide_eq_false_iff_not] at h; omega
    repeat (first | refine LOps.valH (LVal.call rfl rfl (by rw [hP]; exact Try.func13) rfl (by decide) (hff)) ?_ | refine LOps.valH (LVal.call rfl rfl (by rw [hP]; exact Try.func10) rfl (by decide) (wakes_F hP)) ?_ | refine LOps.valH (LVal.to (LVal.binOp hD rfl rfl rfl rfl) (r' := .one (.v (.bool true))) (congrArg (fun b => TV.one (.v (.bool b))) (by first | exact decide_eq_true (by omega) | (rw [beq_iff_eq]; omega) | (rw [bne_iff_ne]; omega)))) ?_ | refine LOps.valH (LVal.to (LVal.binOp hD rfl rfl rfl rfl) (r' := .one (.v (.bool false))) (congrArg (fun b => TV.one (.v (.bool b))) (by first | exact decide_eq_false (by omega) | (rw [beq_eq_false_iff_ne]; omega) | (rw [bne_eq_false_iff_eq]; omega)))) ?_ | refine LOps.valW ?_ | refine LOps.nil ?_ | refine andThen_normal ?_ | refine andThen_exit ?_ | refine andThen_ret ?_ | refine inBlock_normal ?_ | refine inBlock_ret ?_ | refine inBlock_here ?_ | refine inBlock_out rfl ?_ | refine LWp.seq ?_ | refine LWp.region ?_ | refine LWp.block ?_ | refine LWp.exit ?_ | refine LWp.ret ?_ | refine LWp.skip ?_ | refine LOps.val (LVal.call rfl rfl (by rw [hP]; exact Try.func13) rfl (by decide) (hff)) rfl rfl rfl ?_ | refine LOps.val (LVal.call rfl rfl (by rw [hP]; exact Try.func10) rfl (by decide) (wakes_F hP)) rfl rfl rfl ?_ | refine LOps.whenC (LVal.call rfl rfl (by rw [hP]; exact Try.func13) rfl (by decide) (hff)) ?_ | refine LOps.whenC (LVal.call rfl rfl (by rw [hP]; exact Try.func10) rfl (by decide) (wakes_F hP)) ?_ | refine LOps.valA ?_ | refine LOps.outA ?_ | refine LOps.whenA ?_ | refine LOps.pickA ?_ | refine LOps.storeA ?_)
    exact ⟨_, LRes.one rfl, rfl⟩
end Go.Proofs.Ytkjbdldjfjkneaa.LF

namespace Go.Proofs.Ytkjbdldjfjkneaa
open Go.RowKit LF
theorem dirBack_walk (W : World) (v0 : Value) (l0 : List LV) (y0 : Typed LF.D 22 l0) (g0 : RepT (G0 Try.prog W) W (allCells W) (argTV ti22 l0) v0) (v1 : Value) (l1 : List LV) (y1 : Typed LF.D 3 l1) (g1 : RepT (G0 Try.prog W) W (allCells W) (argTV ti3 l1) v1) (v2 : Value) (l2 : List LV) (y2 : Typed LF.D 9 l2) (g2 : RepT (G0 Try.prog W) W (allCells W) (argTV ti9 l2) v2) :
    Calls Try.prog 8 #[v0, v1, v2] W fun e W' => e = .returned (.bool true) ∧ Below W.heap.size W W' := by
  obtain ⟨xs, rfl, hx⟩ := typed_acts y0
  obtain ⟨i, rfl, _⟩ := typed_int rfl rfl y1
  obtain ⟨k, rfl, _⟩ := typed_str rfl rfl y2
  exact law_calls (fun G S h => back_L h xs hx i k S) (.cons (vs := [v1, v2]) g0 (.cons (vs := [v2]) g1 (.cons (vs := []) g2 .nil)))
end Go.Proofs.Ytkjbdldjfjkneaa
