/- The B-link node's law: the walks of right, great, value; what the arguments are. -/
import Derived.Test.YtjcpcgneghanfaaLBg
set_option linter.unusedVariables false
set_option linter.unusedSimpArgs false
namespace Go.Proofs.Ytjcpcgneghanfaa.LF
open Go.RowKit
set_option linter.unusedVariables false

def shapeN (n : NdV) : Bool := if n.leaf then (decide (n.vals.length = n.keys.length) && decide (n.kids.length = 0)) else (decide (n.vals.length = 0) && decide (n.kids.length = n.keys.length + 1))
theorem rightN_eq (n : NdV) : rightN n = ((risesL n.keys && n.keys.all (coversN n)) && (!(!n.bounded && !decide (n.high = noBytes)) && shapeN n)) := by
  by_cases h : ∀ i, i < n.keys.length → badK n i = false
  · rw [rightN_fine h]
    have h1 : risesL n.keys = true := risesL_iff.2 fun i hi => by
      have h3 := h (i + 1) hi
      unfold badK at h3
      rw [Bool.or_eq_false_iff] at h3
      have h2 := h3.1
      rw [decide_eq_true (by omega), Nat.add_sub_cancel, getD_key hi, getD_key (by omega)] at h2
      simpa using h2
    have h2 : n.keys.all (coversN n) = true := List.all_eq_true.2 fun k hk => by
      obtain ⟨i, hi, rfl⟩ := List.getElem_of_mem hk
      have h3 := h i hi
      unfold badK at h3
      rw [Bool.or_eq_false_iff, getD_key hi] at h3
      simpa using h3.2
    rw [h1, h2]; rfl
  · simp only [Classical.not_forall] at h
    obtain ⟨i, hi, hb⟩ := h
    have hb : badK n i = true := by simpa using hb
    rw [rightN_bad hi hb]
    unfold badK at hb
    rw [Bool.or_eq_true, getD_key hi] at hb
    rcases hb with hb | hb
    · rw [Bool.and_eq_true, decide_eq_true_iff] at hb
      obtain ⟨q, rfl⟩ : ∃ q, i = q + 1 := ⟨i - 1, by omega⟩
      have h1 : risesL n.keys = false := by
        cases hq : risesL n.keys with
        | false => rfl
        | true =>
          have h2 := hb.2
          rw [Nat.add_sub_cancel, getD_key (by omega), risesL_iff.1 hq q hi] at h2
          cases h2
      rw [h1]; rfl
    · have h1 : n.keys.all (coversN n) = false := by
        rw [List.all_eq_false]; exact ⟨_, List.getElem_mem hi, by simpa using hb⟩
      rw [h1, Bool.and_false]; rfl

set_option maxHeartbeats 4000000 in
theorem lright_F {G : Ctx} (hP : G.P = Try.prog) (n : NdV) (hn : n.ok) (hz : n.sz) : LFun G 12 [.agg (ndL n)] (.one (bv (rightN n))) := LFun.of fun S => by
  have hD : TabOK G.P D := by rw [hP]; exact hD0
  have hml : (n.keys.map sL).length = n.keys.length := List.length_map ..
  have hmv : (n.vals.map sL).length = n.vals.length := List.length_map ..
  have hmk : (n.kids.map hdL).length = n.kids.length := List.length_map ..
  have hkl := hn.keys
  have c1 := rises_F hP n.keys hn.keys hz.keys
  have hr := rightN_eq n
  refine LCalls.enter (fn := Try.f12) (by rw [hP]; exact Try.func12) rfl rfl ?_
  repeat (first | refine LOps.nil ?_ | refine andThen_normal ?_ | refine andThen_exit ?_ | refine andThen_ret ?_ | refine inBlock_normal ?_ | refine inBlock_ret ?_ | refine inBlock_here ?_ | refine inBlock_out rfl ?_ | refine LWp.seq ?_ | refine LWp.region ?_ | refine LWp.block ?_ | refine LWp.exit ?_ | refine LWp.ret ?_ | refine LWp.skip ?_ | refine LOps.valA ?_ | refine LOps.outA ?_ | refine LOps.whenA ?_ | refine LOps.pickA ?_ | refine LOps.storeA ?_)
  have hle := LS.le.refl S
  refine LOps.do (LDo.box rfl rfl) rfl rfl rfl ?_
  rintro _ _ ⟨b1, hb1, rfl, rfl⟩
  have s1 := hle.none hb1
  refine LOps.gen (fun S' => S.le S' ∧ S'.box b1 = some (ndL n)) ⟨hle.newBox hb1 _, box_new _ _ _⟩ ?_
  clear hle hb1 
  rintro S1 ⟨hle, k1⟩
  repeat (first | refine LOps.nil ?_ | refine andThen_normal ?_ | refine andThen_exit ?_ | refine andThen_ret ?_ | refine inBlock_normal ?_ | refine inBlock_ret ?_ | refine inBlock_here ?_ | refine inBlock_out rfl ?_ | refine LWp.seq ?_ | refine LWp.region ?_ | refine LWp.block ?_ | refine LWp.exit ?_ | refine LWp.ret ?_ | refine LWp.skip ?_ | refine LOps.val (LVal.call rfl rfl (by rw [hP]; exact Try.func19) rfl (by decide) (c1)) rfl rfl rfl ?_ | refine LOps.whenC (LVal.call rfl rfl (by rw [hP]; exact Try.func19) rfl (by decide) (c1)) ?_ | refine LOps.valA ?_ | refine LOps.outA ?_ | refine LOps.whenA ?_ | refine LOps.pickA ?_ | refine LOps.storeA ?_)
  refine LWp.cond rfl (fun h => ?_) (fun h => ?_)
  · have h : (!risesL n.keys || (!n.bounded && !decide (n.high = noBytes))) = true := h
    repeat (first | refine LOps.nil ?_ | refine andThen_normal ?_ | refine andThen_exit ?_ | refine andThen_ret ?_ | refine inBlock_normal ?_ | refine inBlock_ret ?_ | refine inBlock_here ?_ | refine inBlock_out rfl ?_ | refine LWp.seq ?_ | refine LWp.region ?_ | refine LWp.block ?_ | refine LWp.exit ?_ | refine LWp.ret ?_ | refine LWp.skip ?_ | refine LOps.valA ?_ | refine LOps.outA ?_ | refine LOps.whenA ?_ | refine LOps.pickA ?_ | refine LOps.storeA ?_)
    refine ⟨_, LRes.one rfl, ?_, hle⟩
    have e : rightN n = false := by
      rw [hr]
      rw [Bool.or_eq_true] at h
      rcases h with h | h
      · rw [show risesL n.keys = false by simpa using h]; rfl
      · rw [h]; simp
    rw [e]; rfl
  have h : (!risesL n.keys || (!n.bounded && !decide (n.high = noBytes))) = false := h
  rw [Bool.or_eq_false_iff] at h
  rw [show risesL n.keys = true by simpa using h.1, h.2] at hr
  clear h
  repeat (first | refine LOps.nil ?_ | refine andThen_normal ?_ | refine andThen_exit ?_ | refine andThen_ret ?_ | refine inBlock_normal ?_ | refine inBlock_ret ?_ | refine inBlock_here ?_ | refine inBlock_out rfl ?_ | refine LWp.seq ?_ | refine LWp.region ?_ | refine LWp.block ?_ | refine LWp.exit ?_ | refine LWp.ret ?_ | refine LWp.skip ?_ | refine LOps.valA ?_ | refine LOps.outA ?_ | refine LOps.whenA ?_ | refine LOps.pickA ?_ | refine LOps.storeA ?_)
  refine LWp.loop (fun m T S' => S' = S1 ∧ ∃ (T' : Nat → TV) (j : Nat), j ≤ n.keys.length ∧ m = n.keys.length - j ∧ (∀ i, i < j → ∀ (h : i < n.keys.length), coversN n n.keys[i] = true) ∧ T = over T' [(1, ptr b1), (3, .one (iv (j : Nat)))]) n.keys.length ?_ ?_
  · exact ⟨rfl, _, 0, by omega, by omega, fun i hi => by omega, holds.over ⟨rfl, rfl, trivial⟩⟩
  rintro m T S' ⟨hS, T', j, hj, rfl, hno, rfl⟩
  subst hS
  repeat (first | refine LOps.nil ?_ | refine andThen_normal ?_ | refine andThen_exit ?_ | refine andThen_ret ?_ | refine inBlock_normal ?_ | refine inBlock_ret ?_ | refine inBlock_here ?_ | refine inBlock_out rfl ?_ | refine LWp.seq ?_ | refine LWp.region ?_ | refine LWp.block ?_ | refine LWp.exit ?_ | refine LWp.ret ?_ | refine LWp.skip ?_ | refine LOps.valA ?_ | refine LOps.outA ?_ | refine LOps.whenA ?_ | refine LOps.pickA ?_ | refine LOps.storeA ?_)
  refine LWp.cond rfl (fun h => ?_) (fun h => ?_)
  · have h : (decide ((j : Int) < ((n.keys.map sL).length : Int)) && n.bounded) = true := h
    rw [Bool.and_eq_true, decide_eq_true_iff, hml] at h
    have hlt : j < n.keys.length := by omega
    have hb := h.2
    have c2 := less_F hP n.keys[j] n.high (Nat.le_trans (hz.keys _ (List.getElem_mem _)) (by decide)) (Nat.le_trans hz.high (by decide))
    repeat (first | refine LOps.nil ?_ | refine andThen_normal ?_ | refine andThen_exit ?_ | refine andThen_ret ?_ | refine inBlock_normal ?_ | refine inBlock_ret ?_ | refine inBlock_here ?_ | refine inBlock_out rfl ?_ | refine LWp.seq ?_ | refine LWp.region ?_ | refine LWp.block ?_ | refine LWp.exit ?_ | refine LWp.ret ?_ | refine LWp.skip ?_ | refine LOps.valA ?_ | refine LOps.outA ?_ | refine LOps.whenA ?_ | refine LOps.pickA ?_ | refine LOps.storeA ?_)
    refine LWp.drawL [0, 1, 2, 3, 4, 5, 6, 7, 8] (by rw [hP]; rfl) rfl ?_
    repeat (first | refine LRl.valH (LVal.load hD rfl rfl k1 rfl rfl) ?_ (fun _ hS => LVal.load hD rfl rfl (hS.box _ _ k1 (by first | exact id | (intro hx; rcases hx with hx | hx <;> omega) | (intro hx; have hx2 : _ = _ := hx; omega) | (intro hx; exact absurd hx.1 (by decide)))) rfl rfl) | refine LRl.valC (fun _ => (LVal.call rfl rfl (by rw [hP]; exact Try.func37) rfl (by decide) (c2))) ?_ | refine LRl.whenC (fun _ => (LVal.call rfl rfl (by rw [hP]; exact Try.func37) rfl (by decide) (c2))) ?_ | refine LRl.nil ?_ | refine LRl.valA ?_ | refine LRl.outA ?_ | refine LRl.whenA ?_ | refine LRl.pickA ?_)
    repeat (first | refine LOps.nil ?_ | refine andThen_normal ?_ | refine andThen_exit ?_ | refine andThen_ret ?_ | refine inBlock_normal ?_ | refine inBlock_ret ?_ | refine inBlock_here ?_ | refine inBlock_out rfl ?_ | refine LWp.seq ?_ | refine LWp.region ?_ | refine LWp.block ?_ | refine LWp.exit ?_ | refine LWp.ret ?_ | refine LWp.skip ?_ | refine LOps.valA ?_ | refine LOps.outA ?_ | refine LOps.whenA ?_ | refine LOps.pickA ?_ | refine LOps.storeA ?_)
    have hc : coversN n n.keys[j] = ltS n.keys[j] n.high := by unfold coversN; rw [hb]; rfl
    refine LWp.cond rfl (fun h2 => ?_) (fun h2 => ?_)
    · have h2 : (!ltS n.keys[j] n.high) = true := h2
      repeat (first | refine LOps.nil ?_ | refine andThen_normal ?_ | refine andThen_exit ?_ | refine andThen_ret ?_ | refine inBlock_normal ?_ | refine inBlock_ret ?_ | refine inBlock_here ?_ | refine inBlock_out rfl ?_ | refine LWp.seq ?_ | refine LWp.region ?_ | refine LWp.block ?_ | refine LWp.exit ?_ | refine LWp.ret ?_ | refine LWp.skip ?_ | refine LOps.valA ?_ | refine LOps.outA ?_ | refine LOps.whenA ?_ | refine LOps.pickA ?_ | refine LOps.storeA ?_)
      refine ⟨_, LRes.one rfl, ?_, hle⟩
      have e : n.keys.all (coversN n) = false := by
        rw [List.all_eq_false]; exact ⟨_, List.getElem_mem hlt, by rw [hc]; simpa using h2⟩
      rw [hr, e]; rfl
    · have h2 : (!ltS n.keys[j] n.high) = false := h2
      repeat (first | refine LOps.nil ?_ | refine andThen_normal ?_ | refine andThen_exit ?_ | refine andThen_ret ?_ | refine inBlock_normal ?_ | refine inBlock_ret ?_ | refine inBlock_here ?_ | refine inBlock_out rfl ?_ | refine LWp.seq ?_ | refine LWp.region ?_ | refine LWp.block ?_ | refine LWp.exit ?_ | refine LWp.ret ?_ | refine LWp.skip ?_ | refine LOps.valA ?_ | refine LOps.outA ?_ | refine LOps.whenA ?_ | refine LOps.pickA ?_ | refine LOps.storeA ?_)
      refine ⟨n.keys.length - (j + 1), by omega, rfl, _, j + 1, by omega, rfl, fun i hi hil => ?_, holds.over ⟨rfl, rfl, trivial⟩⟩
      rcases Nat.lt_or_ge i j with h3 | h3
      · exact hno i h3 hil
      · obtain rfl : i = j := by omega
        rw [hc]; simpa using h2
  have h : (decide ((j : Int) < ((n.keys.map sL).length : Int)) && n.bounded) = false := h
  rw [Bool.and_eq_false_iff, decide_eq_false_iff_not, hml] at h
  have e : n.keys.all (coversN n) = true := List.all_eq_true.2 fun k hk => by
    obtain ⟨i, hi, rfl⟩ := List.getElem_of_mem hk
    rcases h with h | h
    · exact hno i (by omega) hi
    · unfold coversN; rw [h]; rfl
  rw [e] at hr
  clear h e hno
  repeat (first | refine LOps.nil ?_ | refine andThen_normal ?_ | refine andThen_exit ?_ | refine andThen_ret ?_ | refine inBlock_normal ?_ | refine inBlock_ret ?_ | refine inBlock_here ?_ | refine inBlock_out rfl ?_ | refine LWp.seq ?_ | refine LWp.region ?_ | refine LWp.block ?_ | refine LWp.exit ?_ | refine LWp.ret ?_ | refine LWp.skip ?_ | refine LOps.valA ?_ | refine LOps.outA ?_ | refine LOps.whenA ?_ | refine LOps.pickA ?_ | refine LOps.storeA ?_)
  refine LWp.cond rfl (fun hl => ?_) (fun hl => ?_)
  · have hl : n.leaf = true := hl
    repeat (first | refine LOps.nil ?_ | refine andThen_normal ?_ | refine andThen_exit ?_ | refine andThen_ret ?_ | refine inBlock_normal ?_ | refine inBlock_ret ?_ | refine inBlock_here ?_ | refine inBlock_out rfl ?_ | refine LWp.seq ?_ | refine LWp.region ?_ | refine LWp.block ?_ | refine LWp.exit ?_ | refine LWp.ret ?_ | refine LWp.skip ?_ | refine LOps.valA ?_ | refine LOps.outA ?_ | refine LOps.whenA ?_ | refine LOps.pickA ?_ | refine LOps.storeA ?_)
    refine ⟨_, LRes.one rfl, ?_, hle⟩
    show TV.one (bv ((((n.vals.map sL).length : Int) == ((n.keys.map sL).length : Int)) && (((n.kids.map hdL).length : Int) == 0))) = _
    have e : ((((n.vals.map sL).length : Int) == ((n.keys.map sL).length : Int)) && (((n.kids.map hdL).length : Int) == 0)) = rightN n := by
      rw [hr, hml, hmv, hmk, shapeN, if_pos hl, Bool.eq_iff_iff]
      simp only [Bool.and_eq_true, beq_iff_eq, Bool.not_false, Bool.true_and, decide_eq_true_eq]
      omega
    rw [e]
  · have hl : n.leaf = false := hl
    repeat (first | refine LOps.nil ?_ | refine andThen_normal ?_ | refine andThen_exit ?_ | refine andThen_ret ?_ | refine inBlock_normal ?_ | refine inBlock_ret ?_ | refine inBlock_here ?_ | refine inBlock_out rfl ?_ | refine LWp.seq ?_ | refine LWp.region ?_ | refine LWp.block ?_ | refine LWp.exit ?_ | refine LWp.ret ?_ | refine LWp.skip ?_ | refine LOps.valA ?_ | refine LOps.outA ?_ | refine LOps.whenA ?_ | refine LOps.pickA ?_ | refine LOps.storeA ?_)
    refine ⟨_, LRes.one rfl, ?_, hle⟩
    show TV.one (bv ((((n.vals.map sL).length : Int) == 0) && (((n.kids.map hdL).length : Int) == ((n.keys.map sL).length : Int) + 1))) = _
    have e : ((((n.vals.map sL).length : Int) == 0) && (((n.kids.map hdL).length : Int) == ((n.keys.map sL).length : Int) + 1)) = rightN n := by
      rw [hr, hml, hmv, hmk, shapeN, if_neg (by rw [hl]; decide), Bool.eq_iff_iff]
      simp only [Bool.and_eq_true, beq_iff_eq, Bool.not_false, Bool.true_and, decide_eq_true_eq]
      omega
    rw [e]

def kTo (n : NdV) (j : Nat) : Nat := n.high.size + ((n.keys.take j).map fun k => if 20001 < k.size then 20001 else k.size).sum
theorem kTo_step {n : NdV} {j : Nat} (h : j < n.keys.length) : kTo n (j + 1) = kTo n j + if 20001 < n.keys[j].size then 20001 else n.keys[j].size := by
  unfold kTo
  rw [List.take_succ_eq_append_getElem h, List.map_append, List.sum_append]
  simp
  omega
theorem kTo_le (n : NdV) (j : Nat) : kTo n j ≤ n.high.size + j * 20001 := by
  induction j with
  | zero => simp [kTo]
  | succ j ih =>
    by_cases h : j < n.keys.length
    · rw [kTo_step h]; split <;> omega
    · have : kTo n (j + 1) = kTo n j := by unfold kTo; rw [List.take_of_length_le (by omega), List.take_of_length_le (by omega)]
      omega
def greatN (n : NdV) : Bool := ((decide ((n.keys.length : Int) > 300) || decide ((n.vals.length : Int) > 300)) || decide ((n.kids.length : Int) > 301)) || decide ((kTo n (Nat.min n.keys.length 301) : Int) > 20000)
/-- What is not too great. -/
theorem greatN_ok {n : NdV} (h : greatN n = false) : n.keys.length ≤ 300 ∧ n.vals.length ≤ 300 ∧ n.kids.length ≤ 301 := by
  unfold greatN at h
  simp only [Bool.or_eq_false_iff, decide_eq_false_iff_not] at h
  omega
theorem great_F {G : Ctx} (hP : G.P = Try.prog) (n : NdV) (hz : n.sz) : LFun G 11 [.agg (ndL n)] (.one (bv (greatN n))) := LFun.of fun S => by
  have hD : TabOK G.P D := by rw [hP]; exact hD0
  have hml : (n.keys.map sL).length = n.keys.length := List.length_map ..
  have hmv : (n.vals.map sL).length = n.vals.length := List.length_map ..
  have hmk : (n.kids.map hdL).length = n.kids.length := List.length_map ..
  have hh := hz.high
  unfold B47 at hh
  refine LCalls.enter (fn := Try.f11) (by rw [hP]; exact Try.func11) rfl rfl ?_
  repeat (first | refine LOps.nil ?_ | refine andThen_normal ?_ | refine andThen_exit ?_ | refine andThen_ret ?_ | refine inBlock_normal ?_ | refine inBlock_ret ?_ | refine inBlock_here ?_ | refine inBlock_out rfl ?_ | refine LWp.seq ?_ | refine LWp.region ?_ | refine LWp.block ?_ | refine LWp.exit ?_ | refine LWp.ret ?_ | refine LWp.skip ?_ | refine LOps.valA ?_ | refine LOps.outA ?_ | refine LOps.whenA ?_ | refine LOps.pickA ?_ | refine LOps.storeA ?_)
  have hle := LS.le.refl S
  refine LOps.do (LDo.box rfl rfl) rfl rfl rfl ?_
  rintro _ _ ⟨b1, hb1, rfl, rfl⟩
  have s1 := hle.none hb1
  refine LOps.gen (fun S' => S.le S' ∧ S'.box b1 = some (ndL n)) ⟨hle.newBox hb1 _, box_new _ _ _⟩ ?_
  clear hle hb1 
  rintro S1 ⟨hle, k1⟩
  repeat (first | refine LOps.nil ?_ | refine andThen_normal ?_ | refine andThen_exit ?_ | refine andThen_ret ?_ | refine inBlock_normal ?_ | refine inBlock_ret ?_ | refine inBlock_here ?_ | refine inBlock_out rfl ?_ | refine LWp.seq ?_ | refine LWp.region ?_ | refine LWp.block ?_ | refine LWp.exit ?_ | refine LWp.ret ?_ | refine LWp.skip ?_ | refine LOps.valA ?_ | refine LOps.outA ?_ | refine LOps.whenA ?_ | refine LOps.pickA ?_ | refine LOps.storeA ?_)
  refine LWp.loop (fun m T S' => S' = S1 ∧ ∃ (T' : Nat → TV) (j : Nat), j ≤ Nat.min n.keys.length 301 ∧ m = Nat.min n.keys.length 301 - j ∧ T = over T' [(1, ptr b1), (3, .one (iv (kTo n j : Nat))), (4, .one (iv (j : Nat)))]) (Nat.min n.keys.length 301) ?_ ?_
  · exact ⟨rfl, _, 0, by omega, by omega, holds.over ⟨rfl, by rw [show kTo n 0 = n.high.size by simp [kTo]]; rfl, rfl, trivial⟩⟩
  have hmin : Nat.min n.keys.length 301 ≤ n.keys.length ∧ Nat.min n.keys.length 301 ≤ 301 := ⟨Nat.min_le_left _ _, Nat.min_le_right _ _⟩
  rintro m T S' ⟨hS, T', j, hj, rfl, rfl⟩
  subst hS
  have hkt := kTo_le n j
  repeat (first | refine LOps.nil ?_ | refine andThen_normal ?_ | refine andThen_exit ?_ | refine andThen_ret ?_ | refine inBlock_normal ?_ | refine inBlock_ret ?_ | refine inBlock_here ?_ | refine inBlock_out rfl ?_ | refine LWp.seq ?_ | refine LWp.region ?_ | refine LWp.block ?_ | refine LWp.exit ?_ | refine LWp.ret ?_ | refine LWp.skip ?_ | refine LOps.valA ?_ | refine LOps.outA ?_ | refine LOps.whenA ?_ | refine LOps.pickA ?_ | refine LOps.storeA ?_)
  refine LWp.cond rfl (fun h => ?_) (fun h => ?_)
  · have h : (decide ((j : Int) < ((n.keys.map sL).length : Int)) && decide ((j : Int) ≤ 300)) = true := h
    rw [Bool.and_eq_true, decide_eq_true_iff, decide_eq_true_iff, hml] at h
    have hlt : j < n.keys.length := by omega
    have hlm : j < Nat.min n.keys.length 301 := by show j < min _ _; omega
    have hst := kTo_step hlt
    repeat (first | refine LOps.valH (LVal.to (LVal.min rfl rfl rfl) (r' := .one (iv ((if 20001 < n.keys[j].size then 20001 else n.keys[j].size : Nat) : Int))) (by refine congrArg (fun x => TV.one (iv x)) ?_; split <;> split <;> omega)) ?_ | refine LOps.valH (LVal.to (LVal.add64 rfl rfl rfl (by split <;> omega)) (r' := .one (iv (kTo n (j + 1) : Nat))) (by rw [hst]; rfl)) ?_ | refine LOps.nil ?_ | refine andThen_normal ?_ | refine andThen_exit ?_ | refine andThen_ret ?_ | refine inBlock_normal ?_ | refine inBlock_ret ?_ | refine inBlock_here ?_ | refine inBlock_out rfl ?_ | refine LWp.seq ?_ | refine LWp.region ?_ | refine LWp.block ?_ | refine LWp.exit ?_ | refine LWp.ret ?_ | refine LWp.skip ?_ | refine LOps.valA ?_ | refine LOps.outA ?_ | refine LOps.whenA ?_ | refine LOps.pickA ?_ | refine LOps.storeA ?_)
    exact ⟨Nat.min n.keys.length 301 - (j + 1), by omega, rfl, _, j + 1, by omega, rfl, holds.over ⟨rfl, rfl, rfl, trivial⟩⟩
  have h : (decide ((j : Int) < ((n.keys.map sL).length : Int)) && decide ((j : Int) ≤ 300)) = false := h
  rw [Bool.and_eq_false_iff, decide_eq_false_iff_not, decide_eq_false_iff_not, hml] at h
  have hge : j = Nat.min n.keys.length 301 := by
    have : Nat.min n.keys.length 301 ≤ j := by
      rcases h with h | h <;> omega
    omega
  repeat (first | refine LOps.nil ?_ | refine andThen_normal ?_ | refine andThen_exit ?_ | refine andThen_ret ?_ | refine inBlock_normal ?_ | refine inBlock_ret ?_ | refine inBlock_here ?_ | refine inBlock_out rfl ?_ | refine LWp.seq ?_ | refine LWp.region ?_ | refine LWp.block ?_ | refine LWp.exit ?_ | refine LWp.ret ?_ | refine LWp.skip ?_ | refine LOps.valA ?_ | refine LOps.outA ?_ | refine LOps.whenA ?_ | refine LOps.pickA ?_ | refine LOps.storeA ?_)
  refine ⟨_, LRes.one rfl, ?_, hle⟩
  show TV.one (bv (((decide (((n.keys.map sL).length : Int) > 300) || decide (((n.vals.map sL).length : Int) > 300)) || decide (((n.kids.map hdL).length : Int) > 301)) || decide ((kTo n j : Int) > 20000))) = _
  rw [hml, hmv, hmk, hge]; rfl

def valueN (n : NdV) (k : ByteArray) : ByteArray × Bool := if hasK n.keys k then (match n.vals[cntK n.keys k]? with | some v => (v, true) | none => (noBytes, false)) else (noBytes, false)
theorem value_F {G : Ctx} (hP : G.P = Try.prog) (n : NdV) (hn : n.ok) (k : ByteArray) : LFun G 36 [.agg (ndL n), .one (sv k)] (.tup [.one (sv (valueN n k).1), .one (bv (valueN n k).2)]) := LFun.of fun S => by
  have hD : TabOK G.P D := by rw [hP]; exact hD0
  have hmv : (n.vals.map sL).length = n.vals.length := List.length_map ..
  have c1 := find_F hP n hn k
  have hcl := cntK_le n.keys k
  have hnk := hn.keys
  refine LCalls.enter (fn := Try.f36) (by rw [hP]; exact Try.func36) rfl rfl ?_
  repeat (first | refine LOps.nil ?_ | refine andThen_normal ?_ | refine andThen_exit ?_ | refine andThen_ret ?_ | refine inBlock_normal ?_ | refine inBlock_ret ?_ | refine inBlock_here ?_ | refine inBlock_out rfl ?_ | refine LWp.seq ?_ | refine LWp.region ?_ | refine LWp.block ?_ | refine LWp.exit ?_ | refine LWp.ret ?_ | refine LWp.skip ?_ | refine LOps.valA ?_ | refine LOps.outA ?_ | refine LOps.whenA ?_ | refine LOps.pickA ?_ | refine LOps.storeA ?_)
  have hle := LS.le.refl S
  refine LOps.do (LDo.box rfl rfl) rfl rfl rfl ?_
  rintro _ _ ⟨b2, hb2, rfl, rfl⟩
  have s2 := hle.none hb2
  refine LOps.gen (fun S' => S.le S' ∧ S'.box b2 = some (ndL n)) ⟨hle.newBox hb2 _, box_new _ _ _⟩ ?_
  clear hle hb2 
  rintro S2 ⟨hle, k2⟩
  repeat (first | refine LOps.valH (LVal.load hD rfl rfl k2 rfl rfl) ?_ | refine LOps.nil ?_ | refine andThen_normal ?_ | refine andThen_exit ?_ | refine andThen_ret ?_ | refine inBlock_normal ?_ | refine inBlock_ret ?_ | refine inBlock_here ?_ | refine inBlock_out rfl ?_ | refine LWp.seq ?_ | refine LWp.region ?_ | refine LWp.block ?_ | refine LWp.exit ?_ | refine LWp.ret ?_ | refine LWp.skip ?_ | refine LOps.val (LVal.call rfl rfl (by rw [hP]; exact Try.func14) rfl (by decide) (c1)) rfl rfl rfl ?_ | refine LOps.whenC (LVal.call rfl rfl (by rw [hP]; exact Try.func14) rfl (by decide) (c1)) ?_ | refine LOps.valA ?_ | refine LOps.outA ?_ | refine LOps.whenA ?_ | refine LOps.pickA ?_ | refine LOps.storeA ?_)
  refine LWp.cond rfl (fun h => ?_) (fun h => ?_)
  · have h : (!hasK n.keys k || decide ((cntK n.keys k : Int) ≥ ((n.vals.map sL).length : Int))) = true := h
    repeat (first | refine LOps.nil ?_ | refine andThen_normal ?_ | refine andThen_exit ?_ | refine andThen_ret ?_ | refine inBlock_normal ?_ | refine inBlock_ret ?_ | refine inBlock_here ?_ | refine inBlock_out rfl ?_ | refine LWp.seq ?_ | refine LWp.region ?_ | refine LWp.block ?_ | refine LWp.exit ?_ | refine LWp.ret ?_ | refine LWp.skip ?_ | refine LOps.valA ?_ | refine LOps.outA ?_ | refine LOps.whenA ?_ | refine LOps.pickA ?_ | refine LOps.storeA ?_)
    refine ⟨_, LRes.two rfl, ?_, hle⟩
    have e : valueN n k = (noBytes, false) := by
      unfold valueN
      rw [Bool.or_eq_true, decide_eq_true_iff, hmv] at h
      rcases h with h | h
      · rw [if_neg (by simpa using h)]
      · rw [List.getElem?_eq_none (by omega)]; split <;> rfl
    rw [e]; rfl
  have h : (!hasK n.keys k || decide ((cntK n.keys k : Int) ≥ ((n.vals.map sL).length : Int))) = false := h
  rw [Bool.or_eq_false_iff, decide_eq_false_iff_not, hmv] at h
  have hlt : cntK n.keys k < n.vals.length := by omega
  have e : valueN n k = (n.vals[cntK n.keys k], true) := by
    unfold valueN
    rw [if_pos (by simpa using h.1), List.getElem?_eq_getElem hlt]
  repeat (first | refine LOps.nil ?_ | refine andThen_normal ?_ | refine andThen_exit ?_ | refine andThen_ret ?_ | refine inBlock_normal ?_ | refine inBlock_ret ?_ | refine inBlock_here ?_ | refine inBlock_out rfl ?_ | refine LWp.seq ?_ | refine LWp.region ?_ | refine LWp.block ?_ | refine LWp.exit ?_ | refine LWp.ret ?_ | refine LWp.skip ?_ | refine LOps.valA ?_ | refine LOps.outA ?_ | refine LOps.whenA ?_ | refine LOps.pickA ?_ | refine LOps.storeA ?_)
  refine ⟨_, LRes.two rfl, ?_, hle⟩
  rw [e]; rfl

/- What the arguments are. -/
theorem typed_hd {l : List LV} (h : Typed D 26 l) : ∃ x : HdV, l = hdL x := by
  obtain ⟨h1, h2⟩ := typed_struct rfl rfl h
  obtain ⟨a, b, rfl⟩ : ∃ a b, l = [a, b] := by
    match l, h1 with
    | [a, b], _ => exact ⟨a, b, rfl⟩
  obtain ⟨x, e1, _⟩ := typed_int rfl rfl (h2 0 _ _ rfl rfl)
  obtain ⟨y, e2, _⟩ := typed_int rfl rfl (h2 1 _ _ rfl rfl)
  cases e1; cases e2
  exact ⟨⟨x, y⟩, rfl⟩
theorem typed_key {l : List LV} (h : Typed D 9 l) : ∃ s, l = [sv s] ∧ s.size ≤ B47 := by
  obtain ⟨x, e1, h1⟩ := typed_str rfl rfl h
  exact ⟨x, e1, h1⟩
theorem typed_keys {l : List LV} (h : Typed D 22 l) : ∃ ws : List ByteArray, l = [.sl .sh (ws.map sL)] ∧ ∀ k ∈ ws, k.size ≤ B47 := by
  obtain ⟨es, rfl, h2, _⟩ := typed_slice rfl rfl rfl h
  have h3 : ∀ (es : List (List LV)), (∀ c ∈ es, Typed D 9 c) → ∃ ws : List ByteArray, es = ws.map sL ∧ ∀ k ∈ ws, k.size ≤ B47 := by
    intro es
    induction es with
    | nil => intro _; exact ⟨[], rfl, by simp⟩
    | cons c es ih =>
      intro h
      obtain ⟨ws, e, hw⟩ := ih fun c hc => h c (List.mem_cons_of_mem _ hc)
      obtain ⟨k, e2, hk⟩ := typed_key (h c (List.mem_cons_self ..))
      refine ⟨k :: ws, by rw [e, e2]; rfl, fun q hq => ?_⟩
      rcases List.mem_cons.1 hq with rfl | hq
      · exact hk
      · exact hw q hq
  obtain ⟨ws, rfl, hw⟩ := h3 es h2
  exact ⟨ws, rfl, hw⟩
theorem typed_hds {l : List LV} (h : Typed D 23 l) : ∃ ws : List HdV, l = [.sl .sh (ws.map hdL)] := by
  obtain ⟨es, rfl, h2, _⟩ := typed_slice rfl rfl rfl h
  obtain ⟨ws, rfl⟩ := typed_all h2 fun c hc => typed_hd hc
  exact ⟨ws, rfl⟩
theorem typed_nd {l : List LV} (h : Typed D 28 l) : ∃ x : NdV, l = ndL x ∧ x.sz := by
  obtain ⟨h1, h2⟩ := typed_struct rfl rfl h
  obtain ⟨a, b, c, d, e, f, g, g2, rfl⟩ : ∃ a b c d e f g g2, l = [a, b, c, d, e, f, g, g2] := by
    match l, h1 with
    | [a, b, c, d, e, f, g, g2], _ => exact ⟨a, b, c, d, e, f, g, g2, rfl⟩
  obtain ⟨x1, e1⟩ := typed_bool rfl rfl (h2 0 _ _ rfl rfl)
  obtain ⟨x2, e2, z2⟩ := typed_keys (h2 1 _ _ rfl rfl)
  obtain ⟨x3, e3, _⟩ := typed_keys (h2 2 _ _ rfl rfl)
  obtain ⟨x4, e4⟩ := typed_hds (h2 3 _ _ rfl rfl)
  obtain ⟨x5, e5, z5⟩ := typed_key (h2 4 _ _ rfl rfl)
  obtain ⟨x6, e6⟩ := typed_bool rfl rfl (h2 5 _ _ rfl rfl)
  obtain ⟨x7, e7⟩ := typed_hd (h2 6 _ _ rfl rfl)
  cases e1; cases e2; cases e3; cases e4; cases e5; cases e6; cases e7
  exact ⟨⟨x1, x2, x3, x4, x5, x6, x7⟩, rfl, ⟨z5, z2⟩⟩
end Go.Proofs.Ytjcpcgneghanfaa.LF
