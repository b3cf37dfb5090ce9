/- The B-link node: the walks of Right, takes, Kid. -/
import Derived.Test.YtjcpcgneghanfaaLBa
set_option linter.unusedVariables false
set_option linter.unusedSimpArgs false
namespace Go.Proofs.Ytjcpcgneghanfaa.LF
open Go.RowKit
set_option linter.unusedVariables false

theorem getD_key {l : List ByteArray} {i : Nat} (h : i < l.length) : l.getD i noBytes = l[i] := by rw [List.getD_eq_getElem?_getD, List.getElem?_eq_getElem h]; rfl
theorem rightN_bad {n : NdV} {i : Nat} (hi : i < n.keys.length) (h : badK n i = true) : rightN n = false := by
  have : (List.range n.keys.length).any (badK n) = true := List.any_eq_true.2 ⟨i, List.mem_range.2 hi, h⟩
  unfold rightN; rw [this]; rfl
theorem rightN_fine {n : NdV} (h : ∀ i, i < n.keys.length → badK n i = false) : rightN n = (!(!n.bounded && !decide (n.high = noBytes)) &&
    (if n.leaf then (decide (n.vals.length = n.keys.length) && decide (n.kids.length = 0)) else (decide (n.vals.length = 0) && decide (n.kids.length = n.keys.length + 1)))) := by
  have : (List.range n.keys.length).any (badK n) = false := by
    rw [List.any_eq_false]
    intro i hi
    rw [h i (List.mem_range.1 hi)]; decide
  unfold rightN; rw [this]; rfl

set_option maxHeartbeats 8000000 in
theorem right_F {G : Ctx} (hP : G.P = Try.prog) (n : NdV) (hn : n.ok) : LFun G 16 [.agg (ndL n)] (.one (bv (rightN n))) := LFun.of fun S => by
  have hD : TabOK G.P D := by rw [hP]; exact hD0
  have hml : (n.keys.map sL).length = n.keys.length := List.length_map ..
  have hmv : (n.vals.map sL).length = n.vals.length := List.length_map ..
  have hmk : (n.kids.map hdL).length = n.kids.length := List.length_map ..
  have hkl := hn.keys
  refine LCalls.enter (fn := Try.f16) (by rw [hP]; exact Try.func16) rfl rfl ?_
  repeat (first | refine LOps.nil ?_ | refine andThen_normal ?_ | refine andThen_exit ?_ | refine andThen_ret ?_ | refine inBlock_normal ?_ | refine inBlock_ret ?_ | refine inBlock_here ?_ | refine inBlock_out rfl ?_ | refine LWp.seq ?_ | refine LWp.region ?_ | refine LWp.block ?_ | refine LWp.exit ?_ | refine LWp.ret ?_ | refine LWp.skip ?_ | refine LOps.valA ?_ | refine LOps.outA ?_ | refine LOps.whenA ?_ | refine LOps.pickA ?_ | refine LOps.storeA ?_)
  have hle := LS.le.refl S
  refine LOps.do (LDo.box rfl rfl) rfl rfl rfl ?_
  rintro _ _ ⟨b1, hb1, rfl, rfl⟩
  have s1 := hle.none hb1
  refine LOps.gen (fun S' => S.le S' ∧ S'.box b1 = some (ndL n)) ⟨hle.newBox hb1 _, box_new _ _ _⟩ ?_
  clear hle hb1 
  rintro S1 ⟨hle, k1⟩
  repeat (first | (refine LWp.seq (LWp.cut 1 (fun T' S' => S' = S1 ∧ (∀ i, i < n.keys.length → badK n i = false) ∧ ∃ (T'' : Nat → TV), T' = over T'' [(1, ptr b1)]) rfl ?_ ?_); rotate_left) | refine LOps.nil ?_ | refine andThen_normal ?_ | refine andThen_exit ?_ | refine andThen_ret ?_ | refine inBlock_normal ?_ | refine inBlock_ret ?_ | refine inBlock_here ?_ | refine inBlock_out rfl ?_ | refine LWp.seq ?_ | refine LWp.region ?_ | refine LWp.block ?_ | refine LWp.exit ?_ | refine LWp.ret ?_ | refine LWp.skip ?_ | refine LOps.valA ?_ | refine LOps.outA ?_ | refine LOps.whenA ?_ | refine LOps.pickA ?_ | refine LOps.storeA ?_)
  rotate_left
  · repeat (first | refine LOps.nil ?_ | refine andThen_normal ?_ | refine andThen_exit ?_ | refine andThen_ret ?_ | refine inBlock_normal ?_ | refine inBlock_ret ?_ | refine inBlock_here ?_ | refine inBlock_out rfl ?_ | refine LWp.seq ?_ | refine LWp.region ?_ | refine LWp.block ?_ | refine LWp.exit ?_ | refine LWp.ret ?_ | refine LWp.skip ?_ | refine LOps.valA ?_ | refine LOps.outA ?_ | refine LOps.whenA ?_ | refine LOps.pickA ?_ | refine LOps.storeA ?_)
    refine LWp.loop (fun m T S' => S' = S1 ∧ ∃ (T' : Nat → TV) (j : Nat), j ≤ n.keys.length ∧ m = n.keys.length - j ∧ (∀ i, i < j → badK n i = false) ∧ T = over T' [(1, ptr b1), (6, .one (.sl .sh (n.keys.map sL))), (7, .one (iv (n.keys.length : Nat))), (8, .one (iv (j : Nat)))]) n.keys.length ?_ ?_
    · exact ⟨rfl, _, 0, by omega, by omega, fun i hi => by omega, holds.over ⟨rfl, rfl, by rw [← hml]; rfl, rfl, trivial⟩⟩
    rintro m T S' ⟨rfl, T', j, hj, rfl, hno, rfl⟩
    repeat (first | refine LOps.nil ?_ | refine andThen_normal ?_ | refine andThen_exit ?_ | refine andThen_ret ?_ | refine inBlock_normal ?_ | refine inBlock_ret ?_ | refine inBlock_here ?_ | refine inBlock_out rfl ?_ | refine LWp.seq ?_ | refine LWp.region ?_ | refine LWp.block ?_ | refine LWp.exit ?_ | refine LWp.ret ?_ | refine LWp.skip ?_ | refine LOps.valA ?_ | refine LOps.outA ?_ | refine LOps.whenA ?_ | refine LOps.pickA ?_ | refine LOps.storeA ?_)
    refine LWp.cond rfl (fun h => ?_) (fun h => ?_)
    · have hlt : j < n.keys.length := by simp at h; omega
      have c2 := covers_F hP n n.keys[j]
      cases j with
      | zero =>
        have hbe : badK n 0 = !coversN n n.keys[0] := by
          unfold badK; rw [getD_key hlt]; rfl
        repeat (first | refine LOps.valH (LVal.load hD rfl rfl k1 rfl rfl) ?_ | refine LOps.whenC (LVal.load hD rfl rfl k1 rfl rfl) ?_ | refine LOps.whenC (LVal.call rfl rfl (by rw [hP]; exact Try.func17) rfl (by decide) c2) ?_ | refine LOps.nil ?_ | refine andThen_normal ?_ | refine andThen_exit ?_ | refine andThen_ret ?_ | refine inBlock_normal ?_ | refine inBlock_ret ?_ | refine inBlock_here ?_ | refine inBlock_out rfl ?_ | refine LWp.seq ?_ | refine LWp.region ?_ | refine LWp.block ?_ | refine LWp.exit ?_ | refine LWp.ret ?_ | refine LWp.skip ?_ | refine LOps.valA ?_ | refine LOps.outA ?_ | refine LOps.whenA ?_ | refine LOps.pickA ?_ | refine LOps.storeA ?_)
        refine LWp.cond rfl (fun h2 => ?_) (fun h2 => ?_)
        · have h2 : (!coversN n n.keys[0]) = true := h2
          repeat (first | refine LOps.nil ?_ | refine andThen_normal ?_ | refine andThen_exit ?_ | refine andThen_ret ?_ | refine inBlock_normal ?_ | refine inBlock_ret ?_ | refine inBlock_here ?_ | refine inBlock_out rfl ?_ | refine LWp.seq ?_ | refine LWp.region ?_ | refine LWp.block ?_ | refine LWp.exit ?_ | refine LWp.ret ?_ | refine LWp.skip ?_ | refine LOps.valA ?_ | refine LOps.outA ?_ | refine LOps.whenA ?_ | refine LOps.pickA ?_ | refine LOps.storeA ?_)
          exact ⟨_, LRes.one rfl, by rw [rightN_bad hlt (hbe.trans h2)]; rfl, hle⟩
        · have h2 : (!coversN n n.keys[0]) = false := h2
          repeat (first | refine LOps.nil ?_ | refine andThen_normal ?_ | refine andThen_exit ?_ | refine andThen_ret ?_ | refine inBlock_normal ?_ | refine inBlock_ret ?_ | refine inBlock_here ?_ | refine inBlock_out rfl ?_ | refine LWp.seq ?_ | refine LWp.region ?_ | refine LWp.block ?_ | refine LWp.exit ?_ | refine LWp.ret ?_ | refine LWp.skip ?_ | refine LOps.valA ?_ | refine LOps.outA ?_ | refine LOps.whenA ?_ | refine LOps.pickA ?_ | refine LOps.storeA ?_)
          exact ⟨n.keys.length - (0 + 1), by omega, rfl, _, 0 + 1, by omega, rfl, fun i hi => by
            obtain rfl : i = 0 := by omega
            exact hbe.trans h2, holds.over ⟨rfl, rfl, rfl, rfl, trivial⟩⟩
      | succ i' =>
        have hlt' : i' < n.keys.length := by omega
        have hbe : badK n (i' + 1) = (!ltS n.keys[i'] n.keys[i' + 1] || !coversN n n.keys[i' + 1]) := by
          unfold badK; rw [getD_key hlt, show i' + 1 - 1 = i' by omega, getD_key hlt', decide_eq_true (by omega : 0 < i' + 1)]; rfl
        have c1 := cmp_F hP n.keys[i'] n.keys[i' + 1]
        have hpos : ((i' + 1 : Nat) : Int) > 0 := by omega
        repeat (first | refine LOps.valH (LVal.to (LVal.binOp hD rfl rfl rfl rfl) (r' := .one (bv true)) (by exact congrArg (fun b => TV.one (bv b)) (decide_eq_true hpos))) ?_ | refine LOps.valH (LVal.to (LVal.sub64 rfl rfl rfl (by omega)) (r' := .one (iv (i' : Nat))) (by exact congrArg (fun x => TV.one (iv x)) (by omega))) ?_ | refine LOps.valW ?_ | refine LOps.nil ?_ | refine andThen_normal ?_ | refine andThen_exit ?_ | refine andThen_ret ?_ | refine inBlock_normal ?_ | refine inBlock_ret ?_ | refine inBlock_here ?_ | refine inBlock_out rfl ?_ | refine LWp.seq ?_ | refine LWp.region ?_ | refine LWp.block ?_ | refine LWp.exit ?_ | refine LWp.ret ?_ | refine LWp.skip ?_ | refine LOps.valA ?_ | refine LOps.outA ?_ | refine LOps.whenA ?_ | refine LOps.pickA ?_ | refine LOps.storeA ?_)
        refine LOps.valH (LVal.call rfl rfl (by rw [hP]; exact Try.func38) rfl (by decide) c1) ?_
        repeat (first | refine LOps.whenC (LVal.load hD rfl rfl k1 rfl rfl) ?_ | refine LOps.whenC (LVal.call rfl rfl (by rw [hP]; exact Try.func17) rfl (by decide) c2) ?_ | refine LOps.valW ?_ | refine LOps.nil ?_ | refine andThen_normal ?_ | refine andThen_exit ?_ | refine andThen_ret ?_ | refine inBlock_normal ?_ | refine inBlock_ret ?_ | refine inBlock_here ?_ | refine inBlock_out rfl ?_ | refine LWp.seq ?_ | refine LWp.region ?_ | refine LWp.block ?_ | refine LWp.exit ?_ | refine LWp.ret ?_ | refine LWp.skip ?_ | refine LOps.valA ?_ | refine LOps.outA ?_ | refine LOps.whenA ?_ | refine LOps.pickA ?_ | refine LOps.storeA ?_)
        refine LWp.cond rfl (fun h2 => ?_) (fun h2 => ?_)
        · have h2 : (decide (cmpS n.keys[i'] n.keys[i' + 1] ≥ 0) || !coversN n n.keys[i' + 1]) = true := h2
          rw [ge_dec] at h2
          repeat (first | refine LOps.nil ?_ | refine andThen_normal ?_ | refine andThen_exit ?_ | refine andThen_ret ?_ | refine inBlock_normal ?_ | refine inBlock_ret ?_ | refine inBlock_here ?_ | refine inBlock_out rfl ?_ | refine LWp.seq ?_ | refine LWp.region ?_ | refine LWp.block ?_ | refine LWp.exit ?_ | refine LWp.ret ?_ | refine LWp.skip ?_ | refine LOps.valA ?_ | refine LOps.outA ?_ | refine LOps.whenA ?_ | refine LOps.pickA ?_ | refine LOps.storeA ?_)
          exact ⟨_, LRes.one rfl, by rw [rightN_bad hlt (hbe.trans h2)]; rfl, hle⟩
        · have h2 : (decide (cmpS n.keys[i'] n.keys[i' + 1] ≥ 0) || !coversN n n.keys[i' + 1]) = false := h2
          rw [ge_dec] at h2
          repeat (first | refine LOps.nil ?_ | refine andThen_normal ?_ | refine andThen_exit ?_ | refine andThen_ret ?_ | refine inBlock_normal ?_ | refine inBlock_ret ?_ | refine inBlock_here ?_ | refine inBlock_out rfl ?_ | refine LWp.seq ?_ | refine LWp.region ?_ | refine LWp.block ?_ | refine LWp.exit ?_ | refine LWp.ret ?_ | refine LWp.skip ?_ | refine LOps.valA ?_ | refine LOps.outA ?_ | refine LOps.whenA ?_ | refine LOps.pickA ?_ | refine LOps.storeA ?_)
          refine ⟨n.keys.length - (i' + 1 + 1), by omega, rfl, _, i' + 1 + 1, by omega, rfl, fun i hi => ?_, holds.over ⟨rfl, rfl, rfl, rfl, trivial⟩⟩
          rcases Nat.lt_or_ge i (i' + 1) with h1 | h1
          · exact hno i h1
          · obtain rfl : i = i' + 1 := by omega
            exact hbe.trans h2
    · have hge : j = n.keys.length := by simp at h; omega
      subst hge
      repeat (first | refine LOps.nil ?_ | refine andThen_normal ?_ | refine andThen_exit ?_ | refine andThen_ret ?_ | refine inBlock_normal ?_ | refine inBlock_ret ?_ | refine inBlock_here ?_ | refine inBlock_out rfl ?_ | refine LWp.seq ?_ | refine LWp.region ?_ | refine LWp.block ?_ | refine LWp.exit ?_ | refine LWp.ret ?_ | refine LWp.skip ?_ | refine LOps.valA ?_ | refine LOps.outA ?_ | refine LOps.whenA ?_ | refine LOps.pickA ?_ | refine LOps.storeA ?_)
      exact ⟨rfl, hno, _, holds.over ⟨rfl, trivial⟩⟩
  rintro _ S2 ⟨rfl, hall, T2, rfl⟩
  have hr := rightN_fine hall
  repeat (first | refine LOps.nil ?_ | refine andThen_normal ?_ | refine andThen_exit ?_ | refine andThen_ret ?_ | refine inBlock_normal ?_ | refine inBlock_ret ?_ | refine inBlock_here ?_ | refine inBlock_out rfl ?_ | refine LWp.seq ?_ | refine LWp.region ?_ | refine LWp.block ?_ | refine LWp.exit ?_ | refine LWp.ret ?_ | refine LWp.skip ?_ | refine LOps.valA ?_ | refine LOps.outA ?_ | refine LOps.whenA ?_ | refine LOps.pickA ?_ | refine LOps.storeA ?_)
  refine LWp.cond rfl (fun h => ?_) (fun h => ?_)
  · have h : (!n.bounded && !decide (n.high = noBytes)) = true := h
    repeat (first | refine LOps.nil ?_ | refine andThen_normal ?_ | refine andThen_exit ?_ | refine andThen_ret ?_ | refine inBlock_normal ?_ | refine inBlock_ret ?_ | refine inBlock_here ?_ | refine inBlock_out rfl ?_ | refine LWp.seq ?_ | refine LWp.region ?_ | refine LWp.block ?_ | refine LWp.exit ?_ | refine LWp.ret ?_ | refine LWp.skip ?_ | refine LOps.valA ?_ | refine LOps.outA ?_ | refine LOps.whenA ?_ | refine LOps.pickA ?_ | refine LOps.storeA ?_)
    exact ⟨_, LRes.one rfl, by rw [hr, h]; rfl, hle⟩
  have h : (!n.bounded && !decide (n.high = noBytes)) = false := h
  rw [h] at hr
  repeat (first | refine LOps.nil ?_ | refine andThen_normal ?_ | refine andThen_exit ?_ | refine andThen_ret ?_ | refine inBlock_normal ?_ | refine inBlock_ret ?_ | refine inBlock_here ?_ | refine inBlock_out rfl ?_ | refine LWp.seq ?_ | refine LWp.region ?_ | refine LWp.block ?_ | refine LWp.exit ?_ | refine LWp.ret ?_ | refine LWp.skip ?_ | refine LOps.valA ?_ | refine LOps.outA ?_ | refine LOps.whenA ?_ | refine LOps.pickA ?_ | refine LOps.storeA ?_)
  refine LWp.cond rfl (fun hl => ?_) (fun hl => ?_)
  · have hl : n.leaf = true := hl
    repeat (first | refine LOps.nil ?_ | refine andThen_normal ?_ | refine andThen_exit ?_ | refine andThen_ret ?_ | refine inBlock_normal ?_ | refine inBlock_ret ?_ | refine inBlock_here ?_ | refine inBlock_out rfl ?_ | refine LWp.seq ?_ | refine LWp.region ?_ | refine LWp.block ?_ | refine LWp.exit ?_ | refine LWp.ret ?_ | refine LWp.skip ?_ | refine LOps.valA ?_ | refine LOps.outA ?_ | refine LOps.whenA ?_ | refine LOps.pickA ?_ | refine LOps.storeA ?_)
    refine ⟨_, LRes.one rfl, ?_, hle⟩
    show TV.one (bv ((((n.vals.map sL).length : Int) == ((n.keys.map sL).length : Int)) && (((n.kids.map hdL).length : Int) == 0))) = _
    have e : ((((n.vals.map sL).length : Int) == ((n.keys.map sL).length : Int)) && (((n.kids.map hdL).length : Int) == 0)) = rightN n := by
      rw [hr, hml, hmv, hmk, if_pos hl, Bool.eq_iff_iff]
      simp only [Bool.and_eq_true, beq_iff_eq, Bool.not_false, Bool.true_and, decide_eq_true_eq]
      omega
    rw [e]
  · have hl : n.leaf = false := hl
    repeat (first | refine LOps.nil ?_ | refine andThen_normal ?_ | refine andThen_exit ?_ | refine andThen_ret ?_ | refine inBlock_normal ?_ | refine inBlock_ret ?_ | refine inBlock_here ?_ | refine inBlock_out rfl ?_ | refine LWp.seq ?_ | refine LWp.region ?_ | refine LWp.block ?_ | refine LWp.exit ?_ | refine LWp.ret ?_ | refine LWp.skip ?_ | refine LOps.valA ?_ | refine LOps.outA ?_ | refine LOps.whenA ?_ | refine LOps.pickA ?_ | refine LOps.storeA ?_)
    refine ⟨_, LRes.one rfl, ?_, hle⟩
    show TV.one (bv ((((n.vals.map sL).length : Int) == 0) && (((n.kids.map hdL).length : Int) == ((n.keys.map sL).length : Int) + 1))) = _
    have e : ((((n.vals.map sL).length : Int) == 0) && (((n.kids.map hdL).length : Int) == ((n.keys.map sL).length : Int) + 1)) = rightN n := by
      rw [hr, hml, hmv, hmk, if_neg (by rw [hl]; decide), Bool.eq_iff_iff]
      simp only [Bool.and_eq_true, beq_iff_eq, Bool.not_false, Bool.true_and, decide_eq_true_eq]
      omega
    rw [e]

def takesN (n : NdV) (k : ByteArray) : Bool := (n.leaf && rightN n) && coversN n k
theorem takes_F {G : Ctx} (hP : G.P = Try.prog) (n : NdV) (hn : n.ok) (k : ByteArray) : LFun G 42 [.agg (ndL n), .one (sv k)] (.one (bv (takesN n k))) := LFun.of fun S => by
  have hD : TabOK G.P D := by rw [hP]; exact hD0
  have c1 := right_F hP n hn
  have c2 := covers_F hP n k
  refine LCalls.enter (fn := Try.f42) (by rw [hP]; exact Try.func42) rfl rfl ?_
  repeat (first | refine LOps.nil ?_ | refine andThen_normal ?_ | refine andThen_exit ?_ | refine andThen_ret ?_ | refine inBlock_normal ?_ | refine inBlock_ret ?_ | refine inBlock_here ?_ | refine inBlock_out rfl ?_ | refine LWp.seq ?_ | refine LWp.region ?_ | refine LWp.block ?_ | refine LWp.exit ?_ | refine LWp.ret ?_ | refine LWp.skip ?_ | refine LOps.valA ?_ | refine LOps.outA ?_ | refine LOps.whenA ?_ | refine LOps.pickA ?_ | refine LOps.storeA ?_)
  have hle := LS.le.refl S
  refine LOps.do (LDo.box rfl rfl) rfl rfl rfl ?_
  rintro _ _ ⟨b2, hb2, rfl, rfl⟩
  have s2 := hle.none hb2
  refine LOps.gen (fun S' => S.le S' ∧ S'.box b2 = some (ndL n)) ⟨hle.newBox hb2 _, box_new _ _ _⟩ ?_
  clear hle hb2 
  rintro S2 ⟨hle, k2⟩
  repeat (first | refine LOps.whenC (LVal.load hD rfl rfl k2 rfl rfl) ?_ | refine LOps.whenC (LVal.call rfl rfl (by rw [hP]; exact Try.func16) rfl (by decide) c1) ?_ | refine LOps.whenC (LVal.call rfl rfl (by rw [hP]; exact Try.func17) rfl (by decide) c2) ?_ | refine LOps.nil ?_ | refine andThen_normal ?_ | refine andThen_exit ?_ | refine andThen_ret ?_ | refine inBlock_normal ?_ | refine inBlock_ret ?_ | refine inBlock_here ?_ | refine inBlock_out rfl ?_ | refine LWp.seq ?_ | refine LWp.region ?_ | refine LWp.block ?_ | refine LWp.exit ?_ | refine LWp.ret ?_ | refine LWp.skip ?_ | refine LOps.valA ?_ | refine LOps.outA ?_ | refine LOps.whenA ?_ | refine LOps.pickA ?_ | refine LOps.storeA ?_)
  exact ⟨_, LRes.one rfl, rfl, hle⟩
end Go.Proofs.Ytjcpcgneghanfaa.LF
