/- The document's directory: Replace, Split, Merge. -/
import Derived.Test.YtkjbdldjfjkneaaLDe
set_option linter.unusedVariables false
set_option linter.unusedSimpArgs false
namespace Go.Proofs.Ytkjbdldjfjkneaa.LF
open Go.RowKit
set_option linter.unusedVariables false

def refR (d : Dv Int) (i n : Int) (los : List ByteArray) (xs : List Int) : Dv Int × Int := ((d.replace i n los xs).1.getD noDir, (d.replace i n los xs).2)

/-- The answer in its cells. -/
theorem refRes {G : Ctx} (hP : G.P = Try.prog) {n : Nat} {fn : Func} {T : Nat → TV} {S : LS} {a k : Tmp} {b : Nat} {d : Dv Int} {e : Int} {cs : List LV} (hf : fn.results = #[.cell a 55, .tmp k]) (ha : T a = ptr b) (hb : S.box b = some cs) (hc : cs.map shLV = dLI d) (hl : Nat.beq cs.length 2 = true) (he : T k = .one (iv e)) :
    LRes G n fn T S (.tup [.agg (dLI d), .one (iv e)]) := by
  obtain ⟨x, y, rfl⟩ : ∃ x y, cs = [x, y] := by
    match cs, hl with
    | [x, y], _ => exact ⟨x, y, rfl⟩
  have h : LRes G n fn T S (shTV (.tup [.agg [x, y], T k])) := LRes.sh (LRes.many (vs := [.cell a 55, .tmp k]) hf rfl (.cons (.cell ha hb (hP ▸ tok55) rfl) (.cons (.tmp _) .nil)))
  rw [he] at h
  have e1 : shTV (.tup [.agg [x, y], .one (iv e)]) = .tup [.agg ([x, y].map shLV), .one (iv e)] := rfl
  rw [e1, hc] at h
  exact h

set_option maxHeartbeats 16000000 in
set_option maxRecDepth 10000 in
theorem refReplace_F {G : Ctx} (hP : G.P = Try.prog) (d : Dv Int) (hdl : d.los.length = d.xs.length) (hsm : d.los.length ≤ 1000000) (hs : ∀ x ∈ d.los, x.size ≤ 1000) (i n : Int) (los : List ByteArray) (xs : List Int) (hlos : los.length ≤ 1000000) (hxs : xs.length ≤ 1000000) (ho : ∀ x ∈ los, x.size ≤ 1000) :
    LFun G 45 [.agg (dLI d), .one (iv i), .one (iv n), .one (.sl .sh (los.map sL)), .one (.sl .sh (xs.map iL))] (.tup [.agg (dLI (refR d i n los xs).1), .one (iv (refR d i n los xs).2)]) := LFun.of fun S => by
  have hD : TabOK G.P D := by rw [hP]; exact hD0
  have hml : (d.los.map sL).length = d.los.length := List.length_map ..
  have hmo : (los.map sL).length = los.length := List.length_map ..
  have hmx : (xs.map iL).length = xs.length := List.length_map ..
  have hmd : (d.xs.map iL).length = d.xs.length := List.length_map ..
  refine LCalls.enter (fn := Try.f45) (by rw [hP]; exact Try.func45) rfl rfl ?_
  repeat (first | refine LOps.nil ?_ | refine andThen_normal ?_ | refine andThen_exit ?_ | refine andThen_ret ?_ | refine inBlock_normal ?_ | refine inBlock_ret ?_ | refine inBlock_here ?_ | refine inBlock_out rfl ?_ | refine LWp.seq ?_ | refine LWp.region ?_ | refine LWp.block ?_ | refine LWp.exit ?_ | refine LWp.ret ?_ | refine LWp.skip ?_ | refine LOps.valA ?_ | refine LOps.outA ?_ | refine LOps.whenA ?_ | refine LOps.pickA ?_ | refine LOps.storeA ?_)
  refine LOps.do (LDo.box rfl rfl) rfl rfl rfl ?_
  rintro _ _ ⟨b5, hb5, rfl, rfl⟩
  have hle := (LS.le.refl S).newBox hb5 (dLI d)
  have k5 := box_new S b5 (dLI d)
  generalize S.newBox b5 (dLI d) = S0 at hle k5
  repeat (first | refine LOps.nil ?_ | refine andThen_normal ?_ | refine andThen_exit ?_ | refine andThen_ret ?_ | refine inBlock_normal ?_ | refine inBlock_ret ?_ | refine inBlock_here ?_ | refine inBlock_out rfl ?_ | refine LWp.seq ?_ | refine LWp.region ?_ | refine LWp.block ?_ | refine LWp.exit ?_ | refine LWp.ret ?_ | refine LWp.skip ?_ | refine LOps.valA ?_ | refine LOps.outA ?_ | refine LOps.whenA ?_ | refine LOps.pickA ?_ | refine LOps.storeA ?_)
  refine LOps.do (LDo.alloc hD rfl rfl rfl) rfl rfl rfl ?_
  rintro _ _ ⟨b10, hb10, rfl, rfl⟩
  have n1 := fresh_ne hb10 k5
  have s10 := hle.none hb10
  have hle := hle.newBox hb10 (ti55.zero.cells.toList.map constLV)
  have k5 := (box_new_ne _ (ti55.zero.cells.toList.map constLV) n1).trans k5
  have k10 := box_new S0 b10 (ti55.zero.cells.toList.map constLV)
  generalize S0.newBox b10 (ti55.zero.cells.toList.map constLV) = S1 at hle k5 k10
  clear hb5 hb10
  by_cases hbad : i < 0 ∨ n < 1 ∨ i ≥ d.los.length ∨ i + n > d.los.length ∨ los.length = 0 ∨ los.length ≠ xs.length
  · have e : refR d i n los xs = (noDir, 21) := by
      have : ¬ (los.length = xs.length ∧ d.fit i n los) := fun ⟨h1, f1, f2, f3, f4, _⟩ => by omega
      simp only [refR, Dv.replace, if_neg this]; rfl
    rw [e]
    have hc : i < 0 ∨ (0 ≤ i ∧ n < 1) ∨ (0 ≤ i ∧ 1 ≤ n ∧ i ≥ d.los.length) ∨ (0 ≤ i ∧ 1 ≤ n ∧ i < d.los.length ∧ n > d.los.length) ∨ (0 ≤ i ∧ 1 ≤ n ∧ i < d.los.length ∧ n ≤ d.los.length ∧ i + n > d.los.length) ∨ (0 ≤ i ∧ 1 ≤ n ∧ i < d.los.length ∧ n ≤ d.los.length ∧ i + n ≤ d.los.length ∧ los.length = 0) ∨ (0 ≤ i ∧ 1 ≤ n ∧ i < d.los.length ∧ n ≤ d.los.length ∧ i + n ≤ d.los.length ∧ los.length ≠ 0 ∧ los.length ≠ xs.length) := by omega
    clear hbad e
    rcases hc with h1 | h1 | h1 | h1 | h1 | h1 | h1
    · repeat (first | refine LWp.condT rfl ?_ | refine LOps.valH (LVal.to (LVal.binOp hD rfl rfl rfl rfl) (r' := .one (.v (.bool true))) (congrArg (fun b => TV.one (.v (.bool b))) (by first | exact decide_eq_true (by omega) | (rw [beq_iff_eq]; omega) | (rw [bne_iff_ne]; omega)))) ?_ | refine LOps.valH (LVal.to (LVal.binOp hD rfl rfl rfl rfl) (r' := .one (.v (.bool false))) (congrArg (fun b => TV.one (.v (.bool b))) (by first | exact decide_eq_false (by omega) | (rw [beq_eq_false_iff_ne]; omega) | (rw [bne_eq_false_iff_eq]; omega)))) ?_ | refine LOps.valW ?_ | refine LOps.nil ?_ | refine andThen_normal ?_ | refine andThen_exit ?_ | refine andThen_ret ?_ | refine inBlock_normal ?_ | refine inBlock_ret ?_ | refine inBlock_here ?_ | refine inBlock_out rfl ?_ | refine LWp.seq ?_ | refine LWp.region ?_ | refine LWp.block ?_ | refine LWp.exit ?_ | refine LWp.ret ?_ | refine LWp.skip ?_ | refine LOps.valA ?_ | refine LOps.outA ?_ | refine LOps.whenA ?_ | refine LOps.pickA ?_ | refine LOps.storeA ?_)
      exact ⟨_, refRes hP rfl rfl (box_set _ _ _) rfl rfl rfl, rfl, hle.setBox s10 _⟩
    · repeat (first | refine LWp.condT rfl ?_ | refine LOps.valH (LVal.to (LVal.binOp hD rfl rfl rfl rfl) (r' := .one (.v (.bool true))) (congrArg (fun b => TV.one (.v (.bool b))) (by first | exact decide_eq_true (by omega) | (rw [beq_iff_eq]; omega) | (rw [bne_iff_ne]; omega)))) ?_ | refine LOps.valH (LVal.to (LVal.binOp hD rfl rfl rfl rfl) (r' := .one (.v (.bool false))) (congrArg (fun b => TV.one (.v (.bool b))) (by first | exact decide_eq_false (by omega) | (rw [beq_eq_false_iff_ne]; omega) | (rw [bne_eq_false_iff_eq]; omega)))) ?_ | refine LOps.valW ?_ | refine LOps.nil ?_ | refine andThen_normal ?_ | refine andThen_exit ?_ | refine andThen_ret ?_ | refine inBlock_normal ?_ | refine inBlock_ret ?_ | refine inBlock_here ?_ | refine inBlock_out rfl ?_ | refine LWp.seq ?_ | refine LWp.region ?_ | refine LWp.block ?_ | refine LWp.exit ?_ | refine LWp.ret ?_ | refine LWp.skip ?_ | refine LOps.valA ?_ | refine LOps.outA ?_ | refine LOps.whenA ?_ | refine LOps.pickA ?_ | refine LOps.storeA ?_)
      exact ⟨_, refRes hP rfl rfl (box_set _ _ _) rfl rfl rfl, rfl, hle.setBox s10 _⟩
    · repeat (first | refine LWp.condT rfl ?_ | refine LOps.valH (LVal.to (LVal.binOp hD rfl rfl rfl rfl) (r' := .one (.v (.bool true))) (congrArg (fun b => TV.one (.v (.bool b))) (by first | exact decide_eq_true (by omega) | (rw [beq_iff_eq]; omega) | (rw [bne_iff_ne]; omega)))) ?_ | refine LOps.valH (LVal.to (LVal.binOp hD rfl rfl rfl rfl) (r' := .one (.v (.bool false))) (congrArg (fun b => TV.one (.v (.bool b))) (by first | exact decide_eq_false (by omega) | (rw [beq_eq_false_iff_ne]; omega) | (rw [bne_eq_false_iff_eq]; omega)))) ?_ | refine LOps.valW ?_ | refine LOps.nil ?_ | refine andThen_normal ?_ | refine andThen_exit ?_ | refine andThen_ret ?_ | refine inBlock_normal ?_ | refine inBlock_ret ?_ | refine inBlock_here ?_ | refine inBlock_out rfl ?_ | refine LWp.seq ?_ | refine LWp.region ?_ | refine LWp.block ?_ | refine LWp.exit ?_ | refine LWp.ret ?_ | refine LWp.skip ?_ | refine LOps.valA ?_ | refine LOps.outA ?_ | refine LOps.whenA ?_ | refine LOps.pickA ?_ | refine LOps.storeA ?_)
      exact ⟨_, refRes hP rfl rfl (box_set _ _ _) rfl rfl rfl, rfl, hle.setBox s10 _⟩
    · repeat (first | refine LWp.condT rfl ?_ | refine LOps.valH (LVal.to (LVal.binOp hD rfl rfl rfl rfl) (r' := .one (.v (.bool true))) (congrArg (fun b => TV.one (.v (.bool b))) (by first | exact decide_eq_true (by omega) | (rw [beq_iff_eq]; omega) | (rw [bne_iff_ne]; omega)))) ?_ | refine LOps.valH (LVal.to (LVal.binOp hD rfl rfl rfl rfl) (r' := .one (.v (.bool false))) (congrArg (fun b => TV.one (.v (.bool b))) (by first | exact decide_eq_false (by omega) | (rw [beq_eq_false_iff_ne]; omega) | (rw [bne_eq_false_iff_eq]; omega)))) ?_ | refine LOps.valW ?_ | refine LOps.nil ?_ | refine andThen_normal ?_ | refine andThen_exit ?_ | refine andThen_ret ?_ | refine inBlock_normal ?_ | refine inBlock_ret ?_ | refine inBlock_here ?_ | refine inBlock_out rfl ?_ | refine LWp.seq ?_ | refine LWp.region ?_ | refine LWp.block ?_ | refine LWp.exit ?_ | refine LWp.ret ?_ | refine LWp.skip ?_ | refine LOps.valA ?_ | refine LOps.outA ?_ | refine LOps.whenA ?_ | refine LOps.pickA ?_ | refine LOps.storeA ?_)
      exact ⟨_, refRes hP rfl rfl (box_set _ _ _) rfl rfl rfl, rfl, hle.setBox s10 _⟩
    · repeat (first | refine LWp.condT rfl ?_ | refine LOps.valH (LVal.to (LVal.binOp hD rfl rfl rfl rfl) (r' := .one (.v (.bool true))) (congrArg (fun b => TV.one (.v (.bool b))) (by first | exact decide_eq_true (by omega) | (rw [beq_iff_eq]; omega) | (rw [bne_iff_ne]; omega)))) ?_ | refine LOps.valH (LVal.to (LVal.binOp hD rfl rfl rfl rfl) (r' := .one (.v (.bool false))) (congrArg (fun b => TV.one (.v (.bool b))) (by first | exact decide_eq_false (by omega) | (rw [beq_eq_false_iff_ne]; omega) | (rw [bne_eq_false_iff_eq]; omega)))) ?_ | refine LOps.valW ?_ | refine LOps.nil ?_ | refine andThen_normal ?_ | refine andThen_exit ?_ | refine andThen_ret ?_ | refine inBlock_normal ?_ | refine inBlock_ret ?_ | refine inBlock_here ?_ | refine inBlock_out rfl ?_ | refine LWp.seq ?_ | refine LWp.region ?_ | refine LWp.block ?_ | refine LWp.exit ?_ | refine LWp.ret ?_ | refine LWp.skip ?_ | refine LOps.valA ?_ | refine LOps.outA ?_ | refine LOps.whenA ?_ | refine LOps.pickA ?_ | refine LOps.storeA ?_)
      exact ⟨_, refRes hP rfl rfl (box_set _ _ _) rfl rfl rfl, rfl, hle.setBox s10 _⟩
    · repeat (first | refine LWp.condT rfl ?_ | refine LOps.valH (LVal.to (LVal.binOp hD rfl rfl rfl rfl) (r' := .one (.v (.bool true))) (congrArg (fun b => TV.one (.v (.bool b))) (by first | exact decide_eq_true (by omega) | (rw [beq_iff_eq]; omega) | (rw [bne_iff_ne]; omega)))) ?_ | refine LOps.valH (LVal.to (LVal.binOp hD rfl rfl rfl rfl) (r' := .one (.v (.bool false))) (congrArg (fun b => TV.one (.v (.bool b))) (by first | exact decide_eq_false (by omega) | (rw [beq_eq_false_iff_ne]; omega) | (rw [bne_eq_false_iff_eq]; omega)))) ?_ | refine LOps.valW ?_ | refine LOps.nil ?_ | refine andThen_normal ?_ | refine andThen_exit ?_ | refine andThen_ret ?_ | refine inBlock_normal ?_ | refine inBlock_ret ?_ | refine inBlock_here ?_ | refine inBlock_out rfl ?_ | refine LWp.seq ?_ | refine LWp.region ?_ | refine LWp.block ?_ | refine LWp.exit ?_ | refine LWp.ret ?_ | refine LWp.skip ?_ | refine LOps.valA ?_ | refine LOps.outA ?_ | refine LOps.whenA ?_ | refine LOps.pickA ?_ | refine LOps.storeA ?_)
      exact ⟨_, refRes hP rfl rfl (box_set _ _ _) rfl rfl rfl, rfl, hle.setBox s10 _⟩
    · repeat (first | refine LWp.condT rfl ?_ | refine LOps.valH (LVal.to (LVal.binOp hD rfl rfl rfl rfl) (r' := .one (.v (.bool true))) (congrArg (fun b => TV.one (.v (.bool b))) (by first | exact decide_eq_true (by omega) | (rw [beq_iff_eq]; omega) | (rw [bne_iff_ne]; omega)))) ?_ | refine LOps.valH (LVal.to (LVal.binOp hD rfl rfl rfl rfl) (r' := .one (.v (.bool false))) (congrArg (fun b => TV.one (.v (.bool b))) (by first | exact decide_eq_false (by omega) | (rw [beq_eq_false_iff_ne]; omega) | (rw [bne_eq_false_iff_eq]; omega)))) ?_ | refine LOps.valW ?_ | refine LOps.nil ?_ | refine andThen_normal ?_ | refine andThen_exit ?_ | refine andThen_ret ?_ | refine inBlock_normal ?_ | refine inBlock_ret ?_ | refine inBlock_here ?_ | refine inBlock_out rfl ?_ | refine LWp.seq ?_ | refine LWp.region ?_ | refine LWp.block ?_ | refine LWp.exit ?_ | refine LWp.ret ?_ | refine LWp.skip ?_ | refine LOps.valA ?_ | refine LOps.outA ?_ | refine LOps.whenA ?_ | refine LOps.pickA ?_ | refine LOps.storeA ?_)
      exact ⟨_, refRes hP rfl rfl (box_set _ _ _) rfl rfl rfl, rfl, hle.setBox s10 _⟩
  obtain ⟨k, rfl⟩ : ∃ k : Nat, i = k := ⟨i.toNat, by omega⟩
  obtain ⟨c, rfl⟩ : ∃ c : Nat, n = c := ⟨n.toNat, by omega⟩
  have hk : k < d.los.length := by omega
  have hl : 0 < los.length := by omega
  have hlx : los.length = xs.length := by omega
  have i0 : los[0]? = some los[0] := List.getElem?_eq_getElem hl
  have hfit : d.fit (k : Int) (c : Int) los ↔ (los[0] = d.los[k] ∧ Asc los ∧ (k + c < d.los.length → ltS (los.getD (los.length - 1) noBytes) (d.los.getD (k + c) noBytes) = true)) := by
    have e1 : ((k : Int) + (c : Int)).toNat = k + c := by omega
    have e2 : ((k : Int)).toNat = k := by omega
    unfold Dv.fit
    rw [e1, e2, getD_at hl, getD_at hk]
    constructor
    · rintro ⟨_, _, _, _, h1, h2, h3⟩; exact ⟨h1, h2, h3⟩
    · rintro ⟨h1, h2, h3⟩; exact ⟨by omega, by omega, by omega, hl, h1, h2, h3⟩
  have hno : ¬ d.fit (k : Int) (c : Int) los → refR d (k : Int) (c : Int) los xs = (noDir, 21) := fun h => by
    have : ¬ (los.length = xs.length ∧ d.fit (k : Int) (c : Int) los) := fun h2 => h h2.2
    simp only [refR, Dv.replace, if_neg this]; rfl
  repeat (first | refine LWp.condF rfl ?_ | refine LOps.valH (LVal.to (LVal.binOp hD rfl rfl rfl rfl) (r' := .one (.v (.bool true))) (congrArg (fun b => TV.one (.v (.bool b))) (by first | exact decide_eq_true (by omega) | (rw [beq_iff_eq]; omega) | (rw [bne_iff_ne]; omega)))) ?_ | refine LOps.valH (LVal.to (LVal.binOp hD rfl rfl rfl rfl) (r' := .one (.v (.bool false))) (congrArg (fun b => TV.one (.v (.bool b))) (by first | exact decide_eq_false (by omega) | (rw [beq_eq_false_iff_ne]; omega) | (rw [bne_eq_false_iff_eq]; omega)))) ?_ | refine LOps.valW ?_ | refine LOps.nil ?_ | refine andThen_normal ?_ | refine andThen_exit ?_ | refine andThen_ret ?_ | refine inBlock_normal ?_ | refine inBlock_ret ?_ | refine inBlock_here ?_ | refine inBlock_out rfl ?_ | refine LWp.seq ?_ | refine LWp.region ?_ | refine LWp.block ?_ | refine LWp.exit ?_ | refine LWp.ret ?_ | refine LWp.skip ?_ | refine LOps.valA ?_ | refine LOps.outA ?_ | refine LOps.whenA ?_ | refine LOps.pickA ?_ | refine LOps.storeA ?_)
  refine LWp.drawL [0, 1, 2, 3, 4, 5, 6, 7, 8] (by rw [hP]; rfl) rfl ?_
  repeat (first | refine LRl.nil ?_ | refine LRl.valA ?_ | refine LRl.outA ?_ | refine LRl.whenA ?_ | refine LRl.pickA ?_)
  repeat (first | refine LOps.nil ?_ | refine andThen_normal ?_ | refine andThen_exit ?_ | refine andThen_ret ?_ | refine inBlock_normal ?_ | refine inBlock_ret ?_ | refine inBlock_here ?_ | refine inBlock_out rfl ?_ | refine LWp.seq ?_ | refine LWp.region ?_ | refine LWp.block ?_ | refine LWp.exit ?_ | refine LWp.ret ?_ | refine LWp.skip ?_ | refine LOps.valA ?_ | refine LOps.outA ?_ | refine LOps.whenA ?_ | refine LOps.pickA ?_ | refine LOps.storeA ?_)
  refine LWp.cond rfl (fun h => ?_) (fun h => ?_)
  · have h : (!decide (los[0] = d.los[k])) = true := h
    rw [hno fun hf => by rw [decide_eq_true (hfit.1 hf).1] at h; cases h]
    repeat (first | refine LOps.nil ?_ | refine andThen_normal ?_ | refine andThen_exit ?_ | refine andThen_ret ?_ | refine inBlock_normal ?_ | refine inBlock_ret ?_ | refine inBlock_here ?_ | refine inBlock_out rfl ?_ | refine LWp.seq ?_ | refine LWp.region ?_ | refine LWp.block ?_ | refine LWp.exit ?_ | refine LWp.ret ?_ | refine LWp.skip ?_ | refine LOps.valA ?_ | refine LOps.outA ?_ | refine LOps.whenA ?_ | refine LOps.pickA ?_ | refine LOps.storeA ?_)
    exact ⟨_, refRes hP rfl rfl (box_set _ _ _) rfl rfl rfl, rfl, hle.setBox s10 _⟩
  have h0 : los[0] = d.los[k] := by
    have h : (!decide (los[0] = d.los[k])) = false := h
    simpa using h
  clear h
  repeat (first | refine LWp.seq (LWp.cut 5 (fun T' S' => S' = S1 ∧ Asc los ∧ ∃ T'', T' = over T'' [(1, .one (iv (k : Nat))), (2, .one (iv (c : Nat))), (3, .one (.sl .sh (los.map sL))), (4, .one (.sl .sh (xs.map iL))), (5, ptr b5), (10, ptr b10)]) rfl ?_ ?_) | refine LOps.nil ?_ | refine andThen_normal ?_ | refine andThen_exit ?_ | refine andThen_ret ?_ | refine inBlock_normal ?_ | refine inBlock_ret ?_ | refine inBlock_here ?_ | refine inBlock_out rfl ?_ | refine LWp.seq ?_ | refine LWp.region ?_ | refine LWp.block ?_ | refine LWp.exit ?_ | refine LWp.ret ?_ | refine LWp.skip ?_ | refine LOps.valA ?_ | refine LOps.outA ?_ | refine LOps.whenA ?_ | refine LOps.pickA ?_ | refine LOps.storeA ?_)
  · repeat (first | refine LOps.nil ?_ | refine andThen_normal ?_ | refine andThen_exit ?_ | refine andThen_ret ?_ | refine inBlock_normal ?_ | refine inBlock_ret ?_ | refine inBlock_here ?_ | refine inBlock_out rfl ?_ | refine LWp.seq ?_ | refine LWp.region ?_ | refine LWp.block ?_ | refine LWp.exit ?_ | refine LWp.ret ?_ | refine LWp.skip ?_ | refine LOps.valA ?_ | refine LOps.outA ?_ | refine LOps.whenA ?_ | refine LOps.pickA ?_ | refine LOps.storeA ?_)
    refine LWp.loop (fun m T S' => S' = S1 ∧ ∃ (T' : Nat → TV) (j : Nat), j < los.length ∧ m = los.length - j ∧ (∀ (q : Nat) (hq : q < j), ltS (los.getD q noBytes) (los.getD (q + 1) noBytes) = true) ∧
      T = over T' [(1, .one (iv (k : Nat))), (2, .one (iv (c : Nat))), (3, .one (.sl .sh (los.map sL))), (4, .one (.sl .sh (xs.map iL))), (5, ptr b5), (10, ptr b10), (12, .one (iv (j : Nat)))]) los.length ?_ ?_
    · exact ⟨rfl, _, 0, hl, rfl, fun q hq => by omega, holds.over ⟨rfl, rfl, rfl, rfl, rfl, rfl, rfl, trivial⟩⟩
    rintro m T S2 ⟨rfl, T', j, hj, rfl, hq, rfl⟩
    repeat (first | refine LOps.nil ?_ | refine andThen_normal ?_ | refine andThen_exit ?_ | refine andThen_ret ?_ | refine inBlock_normal ?_ | refine inBlock_ret ?_ | refine inBlock_here ?_ | refine inBlock_out rfl ?_ | refine LWp.seq ?_ | refine LWp.region ?_ | refine LWp.block ?_ | refine LWp.exit ?_ | refine LWp.ret ?_ | refine LWp.skip ?_ | refine LOps.valA ?_ | refine LOps.outA ?_ | refine LOps.whenA ?_ | refine LOps.pickA ?_ | refine LOps.storeA ?_)
    refine LWp.cond rfl (fun h => ?_) (fun h => ?_)
    · have hlt : j + 1 < los.length := by
        have h : decide ((j : Int) + 1 < ((los.map sL).length : Int)) = true := h
        rw [decide_eq_true_iff] at h; omega
      have hc := less_F hP los[j] los[j + 1] (by have := ho los[j] (List.getElem_mem hj); omega) (by have := ho los[j + 1] (List.getElem_mem hlt); omega)
      repeat (first | refine LOps.nil ?_ | refine andThen_normal ?_ | refine andThen_exit ?_ | refine andThen_ret ?_ | refine inBlock_normal ?_ | refine inBlock_ret ?_ | refine inBlock_here ?_ | refine inBlock_out rfl ?_ | refine LWp.seq ?_ | refine LWp.region ?_ | refine LWp.block ?_ | refine LWp.exit ?_ | refine LWp.ret ?_ | refine LWp.skip ?_ | refine LOps.valA ?_ | refine LOps.outA ?_ | refine LOps.whenA ?_ | refine LOps.pickA ?_ | refine LOps.storeA ?_)
      refine LWp.drawL [0, 1, 2, 3, 4, 5, 6, 7, 8, 9, 10] (by rw [hP]; rfl) rfl ?_
      repeat (first | refine LRl.valC (fun _ => (LVal.call rfl rfl (by rw [hP]; exact Try.func17) rfl (by decide) (hc))) ?_ | refine LRl.whenC (fun _ => (LVal.call rfl rfl (by rw [hP]; exact Try.func17) rfl (by decide) (hc))) ?_ | refine LRl.nil ?_ | refine LRl.valA ?_ | refine LRl.outA ?_ | refine LRl.whenA ?_ | refine LRl.pickA ?_)
      repeat (first | refine LOps.nil ?_ | refine andThen_normal ?_ | refine andThen_exit ?_ | refine andThen_ret ?_ | refine inBlock_normal ?_ | refine inBlock_ret ?_ | refine inBlock_here ?_ | refine inBlock_out rfl ?_ | refine LWp.seq ?_ | refine LWp.region ?_ | refine LWp.block ?_ | refine LWp.exit ?_ | refine LWp.ret ?_ | refine LWp.skip ?_ | refine LOps.valA ?_ | refine LOps.outA ?_ | refine LOps.whenA ?_ | refine LOps.pickA ?_ | refine LOps.storeA ?_)
      have hgq : ∀ q (hq : q < los.length), los.getD q noBytes = los[q] := fun q hq => getD_at hq
      refine LWp.cond rfl (fun h => ?_) (fun h => ?_)
      · have h : (!ltS los[j] los[j + 1]) = true := h
        rw [hno fun hf => by
          have := (hfit.1 hf).2.1.at j hlt
          rw [this] at h; cases h]
        repeat (first | refine LOps.nil ?_ | refine andThen_normal ?_ | refine andThen_exit ?_ | refine andThen_ret ?_ | refine inBlock_normal ?_ | refine inBlock_ret ?_ | refine inBlock_here ?_ | refine inBlock_out rfl ?_ | refine LWp.seq ?_ | refine LWp.region ?_ | refine LWp.block ?_ | refine LWp.exit ?_ | refine LWp.ret ?_ | refine LWp.skip ?_ | refine LOps.valA ?_ | refine LOps.outA ?_ | refine LOps.whenA ?_ | refine LOps.pickA ?_ | refine LOps.storeA ?_)
        exact ⟨_, refRes hP rfl rfl (box_set _ _ _) rfl rfl rfl, rfl, hle.setBox s10 _⟩
      · have h : (!ltS los[j] los[j + 1]) = false := h
        repeat (first | refine LOps.nil ?_ | refine andThen_normal ?_ | refine andThen_exit ?_ | refine andThen_ret ?_ | refine inBlock_normal ?_ | refine inBlock_ret ?_ | refine inBlock_here ?_ | refine inBlock_out rfl ?_ | refine LWp.seq ?_ | refine LWp.region ?_ | refine LWp.block ?_ | refine LWp.exit ?_ | refine LWp.ret ?_ | refine LWp.skip ?_ | refine LOps.valA ?_ | refine LOps.outA ?_ | refine LOps.whenA ?_ | refine LOps.pickA ?_ | refine LOps.storeA ?_)
        refine ⟨los.length - (j + 1), by omega, rfl, _, j + 1, hlt, rfl, fun q hq' => ?_, holds.over ⟨rfl, rfl, rfl, rfl, rfl, rfl, rfl, trivial⟩⟩
        rcases Nat.lt_or_ge q j with h1 | h1
        · exact hq q h1
        · obtain rfl : q = j := by omega
          rw [hgq q hj, hgq _ hlt]
          simpa using h
    · have hge : j + 1 = los.length := by
        have h : decide ((j : Int) + 1 < ((los.map sL).length : Int)) = false := h
        rw [decide_eq_false_iff_not] at h; omega
      repeat (first | refine LOps.nil ?_ | refine andThen_normal ?_ | refine andThen_exit ?_ | refine andThen_ret ?_ | refine inBlock_normal ?_ | refine inBlock_ret ?_ | refine inBlock_here ?_ | refine inBlock_out rfl ?_ | refine LWp.seq ?_ | refine LWp.region ?_ | refine LWp.block ?_ | refine LWp.exit ?_ | refine LWp.ret ?_ | refine LWp.skip ?_ | refine LOps.valA ?_ | refine LOps.outA ?_ | refine LOps.whenA ?_ | refine LOps.pickA ?_ | refine LOps.storeA ?_)
      exact ⟨rfl, fun q hq' => hq q (by omega), _, holds.over ⟨rfl, rfl, rfl, rfl, rfl, rfl, trivial⟩⟩
  rintro _ S ⟨rfl, hasc, T'', rfl⟩
  have hhi := refHi_F hP d hsm ((k : Int) + (c : Int) - 1) (by omega)
  repeat (first | (refine LWp.seq (LWp.cut 11 (fun T' S' => S' = S ∧ d.fit (k : Int) (c : Int) los ∧ ∃ T'', T' = over T'' [(1, .one (iv (k : Nat))), (2, .one (iv (c : Nat))), (3, .one (.sl .sh (los.map sL))), (4, .one (.sl .sh (xs.map iL))), (5, ptr b5), (10, ptr b10)]) rfl ?_ ?_); rotate_left) | refine LOps.nil ?_ | refine andThen_normal ?_ | refine andThen_exit ?_ | refine andThen_ret ?_ | refine inBlock_normal ?_ | refine inBlock_ret ?_ | refine inBlock_here ?_ | refine inBlock_out rfl ?_ | refine LWp.seq ?_ | refine LWp.region ?_ | refine LWp.block ?_ | refine LWp.exit ?_ | refine LWp.ret ?_ | refine LWp.skip ?_ | refine LOps.val (LVal.call rfl rfl (by rw [hP]; exact Try.func46) rfl (by decide) (hhi)) rfl rfl rfl ?_ | refine LOps.whenC (LVal.call rfl rfl (by rw [hP]; exact Try.func46) rfl (by decide) (hhi)) ?_ | refine LOps.valA ?_ | refine LOps.outA ?_ | refine LOps.whenA ?_ | refine LOps.pickA ?_ | refine LOps.storeA ?_)
  rotate_left
  · by_cases hkc : k + c < d.los.length
    · have e1 : hiDI (some d) ((k : Int) + (c : Int) - 1) = (d.los[k + c], true) := by
        have e2 : ((k : Int) + (c : Int) - 1).toNat + 1 = k + c := by omega
        simp only [hiDI, e2, if_pos (show 0 ≤ (k : Int) + (c : Int) - 1 ∧ (k : Int) + (c : Int) - 1 + 1 < d.los.length by omega)]
        rw [getD_at hkc]
      have hq : los.length - 1 < los.length := by omega
      have hc := less_F hP los[los.length - 1] d.los[k + c] (by have := ho los[los.length - 1] (List.getElem_mem hq); omega) (by have := hs d.los[k + c] (List.getElem_mem hkc); omega)
      rw [e1]
      repeat (first | refine LOps.valH (LVal.call rfl rfl (by rw [hP]; exact Try.func17) rfl (by decide) (hc)) ?_ | refine LOps.valH (LVal.to (LVal.sub64 rfl rfl rfl (by omega)) (r' := .one (iv ((los.length - 1 : Nat) : Int))) (by congr 3; omega)) ?_ | refine LOps.valH (LVal.to (LVal.binOp hD rfl rfl rfl rfl) (r' := .one (.v (.bool true))) (congrArg (fun b => TV.one (.v (.bool b))) (by first | exact decide_eq_true (by omega) | (rw [beq_iff_eq]; omega) | (rw [bne_iff_ne]; omega)))) ?_ | refine LOps.valH (LVal.to (LVal.binOp hD rfl rfl rfl rfl) (r' := .one (.v (.bool false))) (congrArg (fun b => TV.one (.v (.bool b))) (by first | exact decide_eq_false (by omega) | (rw [beq_eq_false_iff_ne]; omega) | (rw [bne_eq_false_iff_eq]; omega)))) ?_ | refine LOps.valW ?_ | refine LOps.nil ?_ | refine andThen_normal ?_ | refine andThen_exit ?_ | refine andThen_ret ?_ | refine inBlock_normal ?_ | refine inBlock_ret ?_ | refine inBlock_here ?_ | refine inBlock_out rfl ?_ | refine LWp.seq ?_ | refine LWp.region ?_ | refine LWp.block ?_ | refine LWp.exit ?_ | refine LWp.ret ?_ | refine LWp.skip ?_ | refine LOps.val (LVal.call rfl rfl (by rw [hP]; exact Try.func17) rfl (by decide) (hc)) rfl rfl rfl ?_ | refine LOps.whenC (LVal.call rfl rfl (by rw [hP]; exact Try.func17) rfl (by decide) (hc)) ?_ | refine LOps.valA ?_ | refine LOps.outA ?_ | refine LOps.whenA ?_ | refine LOps.pickA ?_ | refine LOps.storeA ?_)
      refine LWp.cond rfl (fun h => ?_) (fun h => ?_)
      · have h : (!ltS los[los.length - 1] d.los[k + c]) = true := h
        rw [hno fun hf => by
          have := (hfit.1 hf).2.2 hkc
          rw [getD_at hq, getD_at hkc] at this
          rw [this] at h; cases h]
        repeat (first | refine LOps.nil ?_ | refine andThen_normal ?_ | refine andThen_exit ?_ | refine andThen_ret ?_ | refine inBlock_normal ?_ | refine inBlock_ret ?_ | refine inBlock_here ?_ | refine inBlock_out rfl ?_ | refine LWp.seq ?_ | refine LWp.region ?_ | refine LWp.block ?_ | refine LWp.exit ?_ | refine LWp.ret ?_ | refine LWp.skip ?_ | refine LOps.valA ?_ | refine LOps.outA ?_ | refine LOps.whenA ?_ | refine LOps.pickA ?_ | refine LOps.storeA ?_)
        exact ⟨_, refRes hP rfl rfl (box_set _ _ _) rfl rfl rfl, rfl, hle.setBox s10 _⟩
      · have h : (!ltS los[los.length - 1] d.los[k + c]) = false := h
        repeat (first | refine LOps.nil ?_ | refine andThen_normal ?_ | refine andThen_exit ?_ | refine andThen_ret ?_ | refine inBlock_normal ?_ | refine inBlock_ret ?_ | refine inBlock_here ?_ | refine inBlock_out rfl ?_ | refine LWp.seq ?_ | refine LWp.region ?_ | refine LWp.block ?_ | refine LWp.exit ?_ | refine LWp.ret ?_ | refine LWp.skip ?_ | refine LOps.valA ?_ | refine LOps.outA ?_ | refine LOps.whenA ?_ | refine LOps.pickA ?_ | refine LOps.storeA ?_)
        exact ⟨rfl, hfit.2 ⟨h0, hasc, fun _ => by rw [getD_at hq, getD_at hkc]; simpa using h⟩, _, holds.over ⟨rfl, rfl, rfl, rfl, rfl, rfl, trivial⟩⟩
    · have e1 : hiDI (some d) ((k : Int) + (c : Int) - 1) = (noBytes, false) := by
        simp only [hiDI, if_neg (show ¬ (0 ≤ (k : Int) + (c : Int) - 1 ∧ (k : Int) + (c : Int) - 1 + 1 < d.los.length) by omega)]
      rw [e1]
      repeat (first | refine LWp.condF rfl ?_ | refine LOps.valH (LVal.to (LVal.binOp hD rfl rfl rfl rfl) (r' := .one (.v (.bool true))) (congrArg (fun b => TV.one (.v (.bool b))) (by first | exact decide_eq_true (by omega) | (rw [beq_iff_eq]; omega) | (rw [bne_iff_ne]; omega)))) ?_ | refine LOps.valH (LVal.to (LVal.binOp hD rfl rfl rfl rfl) (r' := .one (.v (.bool false))) (congrArg (fun b => TV.one (.v (.bool b))) (by first | exact decide_eq_false (by omega) | (rw [beq_eq_false_iff_ne]; omega) | (rw [bne_eq_false_iff_eq]; omega)))) ?_ | refine LOps.valW ?_ | refine LOps.nil ?_ | refine andThen_normal ?_ | refine andThen_exit ?_ | refine andThen_ret ?_ | refine inBlock_normal ?_ | refine inBlock_ret ?_ | refine inBlock_here ?_ | refine inBlock_out rfl ?_ | refine LWp.seq ?_ | refine LWp.region ?_ | refine LWp.block ?_ | refine LWp.exit ?_ | refine LWp.ret ?_ | refine LWp.skip ?_ | refine LOps.valA ?_ | refine LOps.outA ?_ | refine LOps.whenA ?_ | refine LOps.pickA ?_ | refine LOps.storeA ?_)
      exact ⟨rfl, hfit.2 ⟨h0, hasc, fun h => absurd h hkc⟩, _, holds.over ⟨rfl, rfl, rfl, rfl, rfl, rfl, trivial⟩⟩
  rintro _ S1 ⟨rfl, hf, T2, rfl⟩
  clear hhi hno hfit
  have hck : k + c ≤ d.los.length := by omega
  repeat (first | refine LOps.nil ?_ | refine andThen_normal ?_ | refine andThen_exit ?_ | refine andThen_ret ?_ | refine inBlock_normal ?_ | refine inBlock_ret ?_ | refine inBlock_here ?_ | refine inBlock_out rfl ?_ | refine LWp.seq ?_ | refine LWp.region ?_ | refine LWp.block ?_ | refine LWp.exit ?_ | refine LWp.ret ?_ | refine LWp.skip ?_ | refine LOps.valA ?_ | refine LOps.outA ?_ | refine LOps.whenA ?_ | refine LOps.pickA ?_ | refine LOps.storeA ?_)
  refine LOps.do (LDo.alloc hD rfl rfl rfl) rfl rfl rfl ?_
  rintro _ _ ⟨b15, hb15, rfl, rfl⟩
  have n2 := fresh_ne hb15 k5
  have n3 := fresh_ne hb15 k10
  have s15 := hle.none hb15
  have hle := hle.newBox hb15 (ti55.zero.cells.toList.map constLV)
  have k5 := (box_new_ne _ (ti55.zero.cells.toList.map constLV) n2).trans k5
  have k10 := (box_new_ne _ (ti55.zero.cells.toList.map constLV) n3).trans k10
  have k15 := box_new S1 b15 (ti55.zero.cells.toList.map constLV)
  generalize S1.newBox b15 (ti55.zero.cells.toList.map constLV) = S2 at hle k5 k10 k15
  have cz : ∀ (l : List ByteArray), ∀ e ∈ l.map sL, e.length = 1 := fun l e he => by
    obtain ⟨a, _, rfl⟩ := List.mem_map.1 he; rfl
  have cx : ∀ (l : List Int), ∀ e ∈ l.map iL, e.length = 1 := fun l e he => by
    obtain ⟨a, _, rfl⟩ := List.mem_map.1 he; rfl
  have m1 : ((d.los.take k).map sL).length = k := by rw [List.length_map, List.length_take]; omega
  have m2 : ((d.los.drop (k + c)).map sL).length = d.los.length - (k + c) := by rw [List.length_map, List.length_drop]
  repeat (first | refine LOps.nil ?_ | refine andThen_normal ?_ | refine andThen_exit ?_ | refine andThen_ret ?_ | refine inBlock_normal ?_ | refine inBlock_ret ?_ | refine inBlock_here ?_ | refine inBlock_out rfl ?_ | refine LWp.seq ?_ | refine LWp.region ?_ | refine LWp.block ?_ | refine LWp.exit ?_ | refine LWp.ret ?_ | refine LWp.skip ?_ | refine LOps.valA ?_ | refine LOps.outA ?_ | refine LOps.whenA ?_ | refine LOps.pickA ?_ | refine LOps.storeA ?_)
  refine LWp.drawL [0, 1, 2, 3, 4, 5, 7, 9, 10, 11, 12, 13, 14, 16, 6, 8, 15, 17] (by rw [hP]; rfl) rfl ?_
  repeat (first | refine LRl.nil ?_ | refine LRl.valA ?_ | refine LRl.outA ?_ | refine LRl.whenA ?_ | refine LRl.pickA ?_)
  have m3 : ((d.xs.take k).map iL).length = k := by rw [List.length_map, List.length_take]; omega
  have m4 : ((d.xs.drop (k + c)).map iL).length = d.xs.length - (k + c) := by rw [List.length_map, List.length_drop]
  have eP : (([] ++ (d.los.take k).map sL) ++ los.map sL) ++ (d.los.drop (k + c)).map sL = (d.rep k c los xs).los.map sL := by simp [Dv.rep]
  have eX : (([] ++ (d.xs.take k).map iL) ++ xs.map iL) ++ (d.xs.drop (k + c)).map iL = (d.rep k c los xs).xs.map iL := by simp [Dv.rep]
  refine LRl.act (LDo.appendN hD rfl rfl rfl rfl rfl rfl rfl rfl rfl (show [].length = 0 from rfl) m1 (show Owned S2 9 0 .nil from rfl) (cz _) (by omega)) rfl rfl rfl rfl (by rintro _ _ ⟨_, _, _, hup, _⟩; exact .inl (.upto hup)) ?_
  rintro _ S3 ⟨o1, rfl, own1, hup1, hno1⟩
  have hout1 := (Out.nil S).next hle hno1
  have hle := hle.upto hup1 (.nil _)
  have k5 := hup1.box _ _ k5
  have k10 := hup1.box _ _ k10
  have k15 := hup1.box _ _ k15
  refine LRl.act (LDo.appendN hD rfl rfl rfl rfl rfl rfl rfl rfl rfl (show _ = 0 + k by rw [List.nil_append, m1, Nat.zero_add]) hmo own1 (cz _) (by omega)) rfl rfl rfl rfl (by rintro _ _ ⟨_, _, _, hup, _⟩; exact .inl (.upto hup)) ?_
  rintro _ S4 ⟨o2, rfl, own2, hup2, hno2⟩
  have hout2 := hout1.next hle hno2
  have hle := hle.upto hup2 hout1
  have k5 := hup2.box _ _ k5
  have k10 := hup2.box _ _ k10
  have k15 := hup2.box _ _ k15
  refine LRl.act (LDo.appendN hD rfl rfl rfl rfl rfl rfl rfl rfl rfl (show _ = 0 + k + los.length by rw [List.length_append, List.nil_append, m1, hmo, Nat.zero_add]) m2 own2 (cz _) (by omega)) rfl rfl rfl rfl (by rintro _ _ ⟨_, _, _, hup, _⟩; exact .inl (.upto hup)) ?_
  rintro _ S5 ⟨o3, rfl, own3, hup3, hno3⟩
  have hle := hle.upto hup3 hout2
  have k5 := hup3.box _ _ k5
  have k10 := hup3.box _ _ k10
  have k15 := hup3.box _ _ k15
  refine LRl.act0 (LDo.store hD rfl rfl k15 rfl rfl rfl rfl) rfl rfl rfl (fun _ _ _ => .inr rfl) ?_
  rintro _ _ ⟨rfl, rfl⟩
  repeat (first | refine LRl.nil ?_ | refine LRl.valA ?_ | refine LRl.outA ?_ | refine LRl.whenA ?_ | refine LRl.pickA ?_)
  repeat (first | refine LOps.nil ?_ | refine andThen_normal ?_ | refine andThen_exit ?_ | refine andThen_ret ?_ | refine inBlock_normal ?_ | refine inBlock_ret ?_ | refine inBlock_here ?_ | refine inBlock_out rfl ?_ | refine LWp.seq ?_ | refine LWp.region ?_ | refine LWp.block ?_ | refine LWp.exit ?_ | refine LWp.ret ?_ | refine LWp.skip ?_ | refine LOps.valA ?_ | refine LOps.outA ?_ | refine LOps.whenA ?_ | refine LOps.pickA ?_ | refine LOps.storeA ?_)
  refine LWp.gen (fun S' => S.le S' ∧ S'.box b5 = some (dLI d) ∧ S'.box b10 = some (ti55.zero.cells.toList.map constLV) ∧ S'.box b15 = some [.sl o3 ((d.rep k c los xs).los.map sL), .sl .nil []]) ⟨hle.setBox s15 _, (box_set_ne _ _ n2).trans k5, (box_set_ne _ _ n3).trans k10, (box_set _ _ _).trans (by rw [← eP]; rfl)⟩ ?_
  clear hle k5 k10 k15 own1 own2 own3 hup1 hup2 hup3 hno1 hno2 hno3 hout1 hout2
  rintro S6 ⟨hle, k5, k10, k15⟩
  refine LWp.drawL [0, 1, 2, 3, 4, 5, 7, 9, 10, 11, 12, 13, 14, 16, 6, 8, 15, 17] (by rw [hP]; rfl) rfl ?_
  repeat (first | refine LRl.nil ?_ | refine LRl.valA ?_ | refine LRl.outA ?_ | refine LRl.whenA ?_ | refine LRl.pickA ?_)
  refine LRl.act (LDo.appendN hD rfl rfl rfl rfl rfl rfl rfl rfl rfl (show [].length = 0 from rfl) m3 (show Owned S6 3 0 .nil from rfl) (cx _) (by omega)) rfl rfl rfl rfl (by rintro _ _ ⟨_, _, _, hup, _⟩; exact .inl (.upto hup)) ?_
  rintro _ S7 ⟨o1, rfl, own1, hup1, hno1⟩
  have hout1 := (Out.nil S).next hle hno1
  have hle := hle.upto hup1 (.nil _)
  have k5 := hup1.box _ _ k5
  have k10 := hup1.box _ _ k10
  have k15 := hup1.box _ _ k15
  refine LRl.act (LDo.appendN hD rfl rfl rfl rfl rfl rfl rfl rfl rfl (show _ = 0 + k by rw [List.nil_append, m3, Nat.zero_add]) hmx own1 (cx _) (by omega)) rfl rfl rfl rfl (by rintro _ _ ⟨_, _, _, hup, _⟩; exact .inl (.upto hup)) ?_
  rintro _ S8 ⟨o2, rfl, own2, hup2, hno2⟩
  have hout2 := hout1.next hle hno2
  have hle := hle.upto hup2 hout1
  have k5 := hup2.box _ _ k5
  have k10 := hup2.box _ _ k10
  have k15 := hup2.box _ _ k15
  refine LRl.act (LDo.appendN hD rfl rfl rfl rfl rfl rfl rfl rfl rfl (show _ = 0 + k + xs.length by rw [List.length_append, List.nil_append, m3, hmx, Nat.zero_add]) m4 own2 (cx _) (by omega)) rfl rfl rfl rfl (by rintro _ _ ⟨_, _, _, hup, _⟩; exact .inl (.upto hup)) ?_
  rintro _ S9 ⟨o6, rfl, own3, hup3, hno3⟩
  have hle := hle.upto hup3 hout2
  have k5 := hup3.box _ _ k5
  have k10 := hup3.box _ _ k10
  have k15 := hup3.box _ _ k15
  refine LRl.act0 (LDo.store hD rfl rfl k15 rfl rfl rfl rfl) rfl rfl rfl (fun _ _ _ => .inr rfl) ?_
  rintro _ _ ⟨rfl, rfl⟩
  repeat (first | refine LRl.nil ?_ | refine LRl.valA ?_ | refine LRl.outA ?_ | refine LRl.whenA ?_ | refine LRl.pickA ?_)
  repeat (first | refine LOps.nil ?_ | refine andThen_normal ?_ | refine andThen_exit ?_ | refine andThen_ret ?_ | refine inBlock_normal ?_ | refine inBlock_ret ?_ | refine inBlock_here ?_ | refine inBlock_out rfl ?_ | refine LWp.seq ?_ | refine LWp.region ?_ | refine LWp.block ?_ | refine LWp.exit ?_ | refine LWp.ret ?_ | refine LWp.skip ?_ | refine LOps.valA ?_ | refine LOps.outA ?_ | refine LOps.whenA ?_ | refine LOps.pickA ?_ | refine LOps.storeA ?_)
  refine LWp.gen (fun S' => S.le S' ∧ S'.box b10 = some (ti55.zero.cells.toList.map constLV) ∧ S'.box b15 = some [.sl o3 ((d.rep k c los xs).los.map sL), .sl o6 ((d.rep k c los xs).xs.map iL)]) ⟨hle.setBox s15 _, (box_set_ne _ _ n3).trans k10, (box_set _ _ _).trans (by rw [← eX]; rfl)⟩ ?_
  clear hle k5 k10 k15 own1 own2 own3 hup1 hup2 hup3 hno1 hno2 hno3 hout1 hout2
  rintro S6 ⟨hle, k10, k15⟩
  have hrl : (((d.rep k c los xs).los.map sL).length : Int) = (d.los.length : Int) - (c : Int) + (los.length : Int) := by
    rw [List.length_map]
    simp only [Dv.rep, List.length_append, List.length_take, List.length_drop]; omega
  refine LWp.cond rfl (fun h => ?_) (fun h => ?_)
  · have h : decide ((((d.rep k c los xs).los.map sL).length : Int) > 16) = true := h
    rw [decide_eq_true_iff, hrl] at h
    have e : refR d (k : Int) (c : Int) los xs = (noDir, 5) := by
      simp only [refR, Dv.replace, if_pos (And.intro hlx hf), if_pos h]; rfl
    rw [e]
    repeat (first | refine LOps.nil ?_ | refine andThen_normal ?_ | refine andThen_exit ?_ | refine andThen_ret ?_ | refine inBlock_normal ?_ | refine inBlock_ret ?_ | refine inBlock_here ?_ | refine inBlock_out rfl ?_ | refine LWp.seq ?_ | refine LWp.region ?_ | refine LWp.block ?_ | refine LWp.exit ?_ | refine LWp.ret ?_ | refine LWp.skip ?_ | refine LOps.valA ?_ | refine LOps.outA ?_ | refine LOps.whenA ?_ | refine LOps.pickA ?_ | refine LOps.storeA ?_)
    exact ⟨_, refRes hP rfl rfl (box_set _ _ _) rfl rfl rfl, rfl, hle.setBox s10 _⟩
  · have h : decide ((((d.rep k c los xs).los.map sL).length : Int) > 16) = false := h
    rw [decide_eq_false_iff_not, hrl] at h
    have e : refR d (k : Int) (c : Int) los xs = (d.rep k c los xs, 0) := by
      simp only [refR, Dv.replace, if_pos (And.intro hlx hf), if_neg h, Int.toNat_natCast]; rfl
    rw [e]
    repeat (first | refine LOps.nil ?_ | refine andThen_normal ?_ | refine andThen_exit ?_ | refine andThen_ret ?_ | refine inBlock_normal ?_ | refine inBlock_ret ?_ | refine inBlock_here ?_ | refine inBlock_out rfl ?_ | refine LWp.seq ?_ | refine LWp.region ?_ | refine LWp.block ?_ | refine LWp.exit ?_ | refine LWp.ret ?_ | refine LWp.skip ?_ | refine LOps.valA ?_ | refine LOps.outA ?_ | refine LOps.whenA ?_ | refine LOps.pickA ?_ | refine LOps.storeA ?_)
    exact ⟨_, refRes hP rfl rfl (box_set _ _ _) rfl rfl rfl, rfl, hle.setBox s10 _⟩

/-- A split, a merge. -/
def refSplitR (d : Dv Int) (i : Int) (at' : ByteArray) (a b : Int) : Dv Int × Int := refR d i 1 [(atDI (some d) i).1, at'] [a, b]
def refMergeR (d : Dv Int) (i : Int) (x : Int) : Dv Int × Int := refR d i 2 [(atDI (some d) i).1] [x]
theorem atD_size {d : Dv Int} (hs : ∀ x ∈ d.los, x.size ≤ 1000) (i : Int) : (atDI (some d) i).1.size ≤ 1000 := by
  simp only [atDI]
  split
  · rename_i h
    show (d.los.getD i.toNat noBytes).size ≤ 1000
    rw [getD_at (by omega)]
    exact hs _ (List.getElem_mem _)
  · exact Nat.zero_le _

end Go.Proofs.Ytkjbdldjfjkneaa.LF
