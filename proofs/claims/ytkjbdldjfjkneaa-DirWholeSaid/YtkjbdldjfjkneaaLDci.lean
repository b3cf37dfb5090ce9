/- The directory (instance I): Replace, Split, Merge. (Printed by gen_dir.sh.) -/
import Derived.Test.YtkjbdldjfjkneaaLDbi
set_option linter.unusedVariables false
set_option linter.unusedSimpArgs false
namespace Go.Proofs.Ytkjbdldjfjkneaa.LF
open Go.RowKit
set_option linter.unusedVariables false

def repDI : Option (Dv Int) → Int → Int → List ByteArray → List Int → Option (Dv Int) × Int
  | none, _, _, _, _ => (none, 2)
  | some d, i, n, los, xs => d.replace i n los xs

set_option maxHeartbeats 8000000 in
set_option maxRecDepth 10000 in
theorem replaceI_F {G : Ctx} (hP : G.P = Try.prog) (d : Option (Dv Int)) (hd : ∀ x, d = some x → x.wf) (i n : Int) (los : List ByteArray) (xs : List Int) (hlos : los.length ≤ 1000000) (hxs : xs.length ≤ 1000000) :
    LFun G 32 [dTI d, .one (iv i), .one (iv n), .one (.sl .sh (los.map sL)), .one (.sl .sh (xs.map iL))] (.tup [dTI (repDI d i n los xs).1, .one (iv (repDI d i n los xs).2)]) := LFun.of fun S => by
  have hD : TabOK G.P D := by rw [hP]; exact hD0
  have hn := noneI_F hP d
  cases d with
  | none =>
    refine LCalls.enter (fn := Try.f32) (by rw [hP]; exact Try.func32) rfl rfl ?_
    repeat (first | refine LWp.condT rfl ?_ | refine LOps.nil ?_ | refine andThen_normal ?_ | refine andThen_exit ?_ | refine andThen_ret ?_ | refine inBlock_normal ?_ | refine inBlock_ret ?_ | refine inBlock_here ?_ | refine inBlock_out rfl ?_ | refine LWp.seq ?_ | refine LWp.region ?_ | refine LWp.block ?_ | refine LWp.exit ?_ | refine LWp.ret ?_ | refine LWp.skip ?_ | refine LOps.val (LVal.call rfl rfl (by rw [hP]; exact Try.func36) rfl (by decide) (hn)) rfl rfl rfl ?_ | refine LOps.whenC (LVal.call rfl rfl (by rw [hP]; exact Try.func36) rfl (by decide) (hn)) ?_ | refine LOps.valA ?_ | refine LOps.outA ?_ | refine LOps.whenA ?_ | refine LOps.pickA ?_ | refine LOps.storeA ?_)
    exact ⟨_, LRes.two rfl, rfl, .refl _⟩
  | some d =>
    have hd := hd d rfl
    have hno : noneBI (some d) = false := by
      have := hd.pos
      simp [noneBI]; intro e; rw [e] at this; simp at this
    rw [hno] at hn
    have hsm := hd.small
    have hdl := hd.len
    have hft := fitI_F hP d hsm i n los hlos
    have hml : (d.los.map sL).length = d.los.length := List.length_map ..
    have hmo : (los.map sL).length = los.length := List.length_map ..
    have hmx : (xs.map iL).length = xs.length := List.length_map ..
    refine LCalls.enter (fn := Try.f32) (by rw [hP]; exact Try.func32) rfl rfl ?_
    by_cases hlx : los.length = xs.length
    · by_cases hf : d.fit i n los
      · have hff := hf
        obtain ⟨f1, f2, f3, f4, _⟩ := hff
        obtain ⟨k, rfl⟩ : ∃ k : Nat, i = k := ⟨i.toNat, by omega⟩
        obtain ⟨c, rfl⟩ : ∃ c : Nat, n = c := ⟨n.toNat, by omega⟩
        rw [decide_eq_true hf] at hft
        by_cases hfull : (d.los.length : Int) - c + los.length > 16
        · have e : repDI (some d) (k : Int) (c : Int) los xs = (none, 5) := by
            simp only [repDI, Dv.replace, if_pos (And.intro hlx hf), if_pos hfull]
          rw [e]
          repeat (first | refine LOps.valH (LVal.call rfl rfl (by rw [hP]; exact Try.func36) rfl (by decide) (hn)) ?_ | refine LOps.valH (LVal.call rfl rfl (by rw [hP]; exact Try.func47) rfl (by decide) (hft)) ?_ | refine LWp.condT rfl ?_ | refine LWp.condF rfl ?_ | refine LOps.valH (LVal.to (LVal.binOp hD rfl rfl rfl rfl) (r' := .one (.v (.bool true))) (congrArg (fun b => TV.one (.v (.bool b))) (by first | exact decide_eq_true (by omega) | (rw [beq_iff_eq]; omega) | (rw [bne_iff_ne]; omega)))) ?_ | refine LOps.valH (LVal.to (LVal.binOp hD rfl rfl rfl rfl) (r' := .one (.v (.bool false))) (congrArg (fun b => TV.one (.v (.bool b))) (by first | exact decide_eq_false (by omega) | (rw [beq_eq_false_iff_ne]; omega) | (rw [bne_eq_false_iff_eq]; omega)))) ?_ | refine LOps.valW ?_ | refine LOps.nil ?_ | refine andThen_normal ?_ | refine andThen_exit ?_ | refine andThen_ret ?_ | refine inBlock_normal ?_ | refine inBlock_ret ?_ | refine inBlock_here ?_ | refine inBlock_out rfl ?_ | refine LWp.seq ?_ | refine LWp.region ?_ | refine LWp.block ?_ | refine LWp.exit ?_ | refine LWp.ret ?_ | refine LWp.skip ?_ | refine LOps.val (LVal.call rfl rfl (by rw [hP]; exact Try.func36) rfl (by decide) (hn)) rfl rfl rfl ?_ | refine LOps.val (LVal.call rfl rfl (by rw [hP]; exact Try.func47) rfl (by decide) (hft)) rfl rfl rfl ?_ | refine LOps.whenC (LVal.call rfl rfl (by rw [hP]; exact Try.func36) rfl (by decide) (hn)) ?_ | refine LOps.whenC (LVal.call rfl rfl (by rw [hP]; exact Try.func47) rfl (by decide) (hft)) ?_ | refine LOps.valA ?_ | refine LOps.outA ?_ | refine LOps.whenA ?_ | refine LOps.pickA ?_ | refine LOps.storeA ?_)
          exact ⟨_, LRes.two rfl, rfl, .refl _⟩
        · have e : repDI (some d) (k : Int) (c : Int) los xs = (some (d.rep k c los xs), 0) := by
            simp only [repDI, Dv.replace, if_pos (And.intro hlx hf), if_neg hfull, Int.toNat_natCast]
          rw [e]
          have h1 : k < d.los.length := by omega
          have h2 : k + c ≤ d.los.length := by omega
          have cz : ∀ (l : List ByteArray), ∀ e ∈ l.map sL, e.length = 1 := fun l e he => by
            obtain ⟨a, _, rfl⟩ := List.mem_map.1 he; rfl
          have cx : ∀ (l : List Int), ∀ e ∈ l.map iL, e.length = 1 := fun l e he => by
            obtain ⟨a, _, rfl⟩ := List.mem_map.1 he; rfl
          have hc1 := catS_F hP [(d.los.take k).map sL, los.map sL, (d.los.drop (k + c)).map sL] (by
            intro l hl
            simp only [List.mem_cons, List.not_mem_nil, or_false] at hl
            rcases hl with rfl | rfl | rfl <;> exact cz _) (by simp; omega) (by simp) (by simp; omega)
          have hc2 := catI_F hP [(d.xs.take k).map iL, xs.map iL, (d.xs.drop (k + c)).map iL] (by
            intro l hl
            simp only [List.mem_cons, List.not_mem_nil, or_false] at hl
            rcases hl with rfl | rfl | rfl <;> exact cx _) (by simp; omega) (by simp) (by simp; omega)
          repeat (first | refine LOps.valH (LVal.call rfl rfl (by rw [hP]; exact Try.func36) rfl (by decide) (hn)) ?_ | refine LOps.valH (LVal.call rfl rfl (by rw [hP]; exact Try.func47) rfl (by decide) (hft)) ?_ | refine LWp.condT rfl ?_ | refine LWp.condF rfl ?_ | refine LOps.valH (LVal.to (LVal.binOp hD rfl rfl rfl rfl) (r' := .one (.v (.bool true))) (congrArg (fun b => TV.one (.v (.bool b))) (by first | exact decide_eq_true (by omega) | (rw [beq_iff_eq]; omega) | (rw [bne_iff_ne]; omega)))) ?_ | refine LOps.valH (LVal.to (LVal.binOp hD rfl rfl rfl rfl) (r' := .one (.v (.bool false))) (congrArg (fun b => TV.one (.v (.bool b))) (by first | exact decide_eq_false (by omega) | (rw [beq_eq_false_iff_ne]; omega) | (rw [bne_eq_false_iff_eq]; omega)))) ?_ | refine LOps.valW ?_ | refine LOps.nil ?_ | refine andThen_normal ?_ | refine andThen_exit ?_ | refine andThen_ret ?_ | refine inBlock_normal ?_ | refine inBlock_ret ?_ | refine inBlock_here ?_ | refine inBlock_out rfl ?_ | refine LWp.seq ?_ | refine LWp.region ?_ | refine LWp.block ?_ | refine LWp.exit ?_ | refine LWp.ret ?_ | refine LWp.skip ?_ | refine LOps.val (LVal.call rfl rfl (by rw [hP]; exact Try.func36) rfl (by decide) (hn)) rfl rfl rfl ?_ | refine LOps.val (LVal.call rfl rfl (by rw [hP]; exact Try.func47) rfl (by decide) (hft)) rfl rfl rfl ?_ | refine LOps.whenC (LVal.call rfl rfl (by rw [hP]; exact Try.func36) rfl (by decide) (hn)) ?_ | refine LOps.whenC (LVal.call rfl rfl (by rw [hP]; exact Try.func47) rfl (by decide) (hft)) ?_ | refine LOps.valA ?_ | refine LOps.outA ?_ | refine LOps.whenA ?_ | refine LOps.pickA ?_ | refine LOps.storeA ?_)
          refine LWp.drawL [0, 1, 2, 3, 4, 5, 6, 7, 8, 9, 10, 11, 12, 13, 14, 15, 16, 17, 18, 19, 20, 21, 22, 23, 24, 25, 26, 27, 28, 29, 30, 31, 32, 33, 34, 35, 36, 37] (by rw [hP]; rfl) rfl ?_
          repeat (first | refine LRl.val (fun _ _ => LVal.to (LVal.buildSlice hD rfl rfl rfl rfl rfl rfl rfl rfl rfl rfl) (r' := .one (.sl .sh [shE ((d.los.take k).map sL), shE (los.map sL), shE ((d.los.drop (k + c)).map sL)])) rfl) rfl rfl rfl ?_ | refine LRl.val (fun _ _ => LVal.to (LVal.buildSlice hD rfl rfl rfl rfl rfl rfl rfl rfl rfl rfl) (r' := .one (.sl .sh [shE ((d.xs.take k).map iL), shE (xs.map iL), shE ((d.xs.drop (k + c)).map iL)])) rfl) rfl rfl rfl ?_ | refine LRl.val (fun _ _ => LVal.boxP rfl rfl) rfl rfl rfl ?_ | refine LRl.valC (fun _ => (LVal.call rfl rfl (by rw [hP]; exact Try.func42) rfl (by decide) (hc1))) ?_ | refine LRl.valC (fun _ => (LVal.call rfl rfl (by rw [hP]; exact Try.func48) rfl (by decide) (hc2))) ?_ | refine LRl.whenC (fun _ => (LVal.call rfl rfl (by rw [hP]; exact Try.func42) rfl (by decide) (hc1))) ?_ | refine LRl.whenC (fun _ => (LVal.call rfl rfl (by rw [hP]; exact Try.func48) rfl (by decide) (hc2))) ?_ | refine LRl.nil ?_ | refine LRl.valA ?_ | refine LRl.outA ?_ | refine LRl.whenA ?_ | refine LRl.pickA ?_)
          repeat (first | refine LOps.nil ?_ | refine andThen_normal ?_ | refine andThen_exit ?_ | refine andThen_ret ?_ | refine inBlock_normal ?_ | refine inBlock_ret ?_ | refine inBlock_here ?_ | refine inBlock_out rfl ?_ | refine LWp.seq ?_ | refine LWp.region ?_ | refine LWp.block ?_ | refine LWp.exit ?_ | refine LWp.ret ?_ | refine LWp.skip ?_ | refine LOps.valA ?_ | refine LOps.outA ?_ | refine LOps.whenA ?_ | refine LOps.pickA ?_ | refine LOps.storeA ?_)
          refine ⟨_, LRes.two rfl, ?_, .refl _⟩
          have g1 : [(d.los.take k).map sL, los.map sL, (d.los.drop (k + c)).map sL].flatten = (d.rep k c los xs).los.map sL := by simp [Dv.rep]
          have g2 : [(d.xs.take k).map iL, xs.map iL, (d.xs.drop (k + c)).map iL].flatten = (d.rep k c los xs).xs.map iL := by simp [Dv.rep]
          show TV.tup [.one (.p [.sl .sh [(d.los.take k).map sL, los.map sL, (d.los.drop (k + c)).map sL].flatten, .sl .sh [(d.xs.take k).map iL, xs.map iL, (d.xs.drop (k + c)).map iL].flatten]), .one (iv 0)] = TV.tup [.one (.p (dLI (d.rep k c los xs))), .one (iv 0)]
          rw [g1, g2]
      · have e : repDI (some d) i n los xs = (none, 21) := by
          simp only [repDI, Dv.replace, if_neg (fun h : los.length = xs.length ∧ d.fit i n los => hf h.2)]
        rw [e]
        rw [decide_eq_false hf] at hft
        repeat (first | refine LOps.valH (LVal.call rfl rfl (by rw [hP]; exact Try.func36) rfl (by decide) (hn)) ?_ | refine LOps.valH (LVal.call rfl rfl (by rw [hP]; exact Try.func47) rfl (by decide) (hft)) ?_ | refine LWp.condT rfl ?_ | refine LWp.condF rfl ?_ | refine LOps.valH (LVal.to (LVal.binOp hD rfl rfl rfl rfl) (r' := .one (.v (.bool true))) (congrArg (fun b => TV.one (.v (.bool b))) (by first | exact decide_eq_true (by omega) | (rw [beq_iff_eq]; omega) | (rw [bne_iff_ne]; omega)))) ?_ | refine LOps.valH (LVal.to (LVal.binOp hD rfl rfl rfl rfl) (r' := .one (.v (.bool false))) (congrArg (fun b => TV.one (.v (.bool b))) (by first | exact decide_eq_false (by omega) | (rw [beq_eq_false_iff_ne]; omega) | (rw [bne_eq_false_iff_eq]; omega)))) ?_ | refine LOps.valW ?_ | refine LOps.nil ?_ | refine andThen_normal ?_ | refine andThen_exit ?_ | refine andThen_ret ?_ | refine inBlock_normal ?_ | refine inBlock_ret ?_ | refine inBlock_here ?_ | refine inBlock_out rfl ?_ | refine LWp.seq ?_ | refine LWp.region ?_ | refine LWp.block ?_ | refine LWp.exit ?_ | refine LWp.ret ?_ | refine LWp.skip ?_ | refine LOps.val (LVal.call rfl rfl (by rw [hP]; exact Try.func36) rfl (by decide) (hn)) rfl rfl rfl ?_ | refine LOps.val (LVal.call rfl rfl (by rw [hP]; exact Try.func47) rfl (by decide) (hft)) rfl rfl rfl ?_ | refine LOps.whenC (LVal.call rfl rfl (by rw [hP]; exact Try.func36) rfl (by decide) (hn)) ?_ | refine LOps.whenC (LVal.call rfl rfl (by rw [hP]; exact Try.func47) rfl (by decide) (hft)) ?_ | refine LOps.valA ?_ | refine LOps.outA ?_ | refine LOps.whenA ?_ | refine LOps.pickA ?_ | refine LOps.storeA ?_)
        exact ⟨_, LRes.two rfl, rfl, .refl _⟩
    · have e : repDI (some d) i n los xs = (none, 21) := by
        simp only [repDI, Dv.replace, if_neg (fun h : los.length = xs.length ∧ d.fit i n los => hlx h.1)]
      rw [e]
      repeat (first | refine LOps.valH (LVal.call rfl rfl (by rw [hP]; exact Try.func36) rfl (by decide) (hn)) ?_ | refine LWp.condT rfl ?_ | refine LWp.condF rfl ?_ | refine LOps.valH (LVal.to (LVal.binOp hD rfl rfl rfl rfl) (r' := .one (.v (.bool true))) (congrArg (fun b => TV.one (.v (.bool b))) (by first | exact decide_eq_true (by omega) | (rw [beq_iff_eq]; omega) | (rw [bne_iff_ne]; omega)))) ?_ | refine LOps.valH (LVal.to (LVal.binOp hD rfl rfl rfl rfl) (r' := .one (.v (.bool false))) (congrArg (fun b => TV.one (.v (.bool b))) (by first | exact decide_eq_false (by omega) | (rw [beq_eq_false_iff_ne]; omega) | (rw [bne_eq_false_iff_eq]; omega)))) ?_ | refine LOps.valW ?_ | refine LOps.nil ?_ | refine andThen_normal ?_ | refine andThen_exit ?_ | refine andThen_ret ?_ | refine inBlock_normal ?_ | refine inBlock_ret ?_ | refine inBlock_here ?_ | refine inBlock_out rfl ?_ | refine LWp.seq ?_ | refine LWp.region ?_ | refine LWp.block ?_ | refine LWp.exit ?_ | refine LWp.ret ?_ | refine LWp.skip ?_ | refine LOps.val (LVal.call rfl rfl (by rw [hP]; exact Try.func36) rfl (by decide) (hn)) rfl rfl rfl ?_ | refine LOps.whenC (LVal.call rfl rfl (by rw [hP]; exact Try.func36) rfl (by decide) (hn)) ?_ | refine LOps.valA ?_ | refine LOps.outA ?_ | refine LOps.whenA ?_ | refine LOps.pickA ?_ | refine LOps.storeA ?_)
      exact ⟨_, LRes.two rfl, rfl, .refl _⟩

def splitDI (d : Option (Dv Int)) (i : Int) (at' : ByteArray) (a b : Int) : Option (Dv Int) × Int := repDI d i 1 [(atDI d i).1, at'] [a, b]
def mergeDI (d : Option (Dv Int)) (i : Int) (x : Int) : Option (Dv Int) × Int := repDI d i 2 [(atDI d i).1] [x]

theorem splitI_F {G : Ctx} (hP : G.P = Try.prog) (d : Option (Dv Int)) (hd : ∀ x, d = some x → x.wf) (i : Int) (at' : ByteArray) (a b : Int) :
    LFun G 30 [dTI d, .one (iv i), .one (sv at'), .one (iv a), .one (iv b)] (.tup [dTI (splitDI d i at' a b).1, .one (iv (splitDI d i at' a b).2)]) := LFun.of fun S => by
  have hD : TabOK G.P D := by rw [hP]; exact hD0
  have ha := atI_F hP d hd i
  have hr := replaceI_F hP d hd i 1 [(atDI d i).1, at'] [a, b] (by simp) (by simp)
  refine LCalls.enter (fn := Try.f30) (by rw [hP]; exact Try.func30) rfl rfl ?_
  cases d with
  | none =>
    repeat (first | refine LOps.val (LVal.buildSlice hD rfl rfl rfl rfl rfl rfl rfl rfl rfl rfl) rfl rfl rfl ?_ | refine LOps.nil ?_ | refine andThen_normal ?_ | refine andThen_exit ?_ | refine andThen_ret ?_ | refine inBlock_normal ?_ | refine inBlock_ret ?_ | refine inBlock_here ?_ | refine inBlock_out rfl ?_ | refine LWp.seq ?_ | refine LWp.region ?_ | refine LWp.block ?_ | refine LWp.exit ?_ | refine LWp.ret ?_ | refine LWp.skip ?_ | refine LOps.val (LVal.call rfl rfl (by rw [hP]; exact Try.func15) rfl (by decide) (ha)) rfl rfl rfl ?_ | refine LOps.val (LVal.call rfl rfl (by rw [hP]; exact Try.func32) rfl (by decide) (hr)) rfl rfl rfl ?_ | refine LOps.whenC (LVal.call rfl rfl (by rw [hP]; exact Try.func15) rfl (by decide) (ha)) ?_ | refine LOps.whenC (LVal.call rfl rfl (by rw [hP]; exact Try.func32) rfl (by decide) (hr)) ?_ | refine LOps.valA ?_ | refine LOps.outA ?_ | refine LOps.whenA ?_ | refine LOps.pickA ?_ | refine LOps.storeA ?_)
    exact ⟨_, LRes.two rfl, rfl, .refl _⟩
  | some d =>
    repeat (first | refine LOps.val (LVal.buildSlice hD rfl rfl rfl rfl rfl rfl rfl rfl rfl rfl) rfl rfl rfl ?_ | refine LOps.nil ?_ | refine andThen_normal ?_ | refine andThen_exit ?_ | refine andThen_ret ?_ | refine inBlock_normal ?_ | refine inBlock_ret ?_ | refine inBlock_here ?_ | refine inBlock_out rfl ?_ | refine LWp.seq ?_ | refine LWp.region ?_ | refine LWp.block ?_ | refine LWp.exit ?_ | refine LWp.ret ?_ | refine LWp.skip ?_ | refine LOps.val (LVal.call rfl rfl (by rw [hP]; exact Try.func15) rfl (by decide) (ha)) rfl rfl rfl ?_ | refine LOps.val (LVal.call rfl rfl (by rw [hP]; exact Try.func32) rfl (by decide) (hr)) rfl rfl rfl ?_ | refine LOps.whenC (LVal.call rfl rfl (by rw [hP]; exact Try.func15) rfl (by decide) (ha)) ?_ | refine LOps.whenC (LVal.call rfl rfl (by rw [hP]; exact Try.func32) rfl (by decide) (hr)) ?_ | refine LOps.valA ?_ | refine LOps.outA ?_ | refine LOps.whenA ?_ | refine LOps.pickA ?_ | refine LOps.storeA ?_)
    exact ⟨_, LRes.two rfl, rfl, .refl _⟩

theorem mergeI_F {G : Ctx} (hP : G.P = Try.prog) (d : Option (Dv Int)) (hd : ∀ x, d = some x → x.wf) (i : Int) (x : Int) :
    LFun G 31 [dTI d, .one (iv i), .one (iv x)] (.tup [dTI (mergeDI d i x).1, .one (iv (mergeDI d i x).2)]) := LFun.of fun S => by
  have hD : TabOK G.P D := by rw [hP]; exact hD0
  have ha := atI_F hP d hd i
  have hr := replaceI_F hP d hd i 2 [(atDI d i).1] [x] (by simp) (by simp)
  refine LCalls.enter (fn := Try.f31) (by rw [hP]; exact Try.func31) rfl rfl ?_
  cases d with
  | none =>
    repeat (first | refine LOps.nil ?_ | refine andThen_normal ?_ | refine andThen_exit ?_ | refine andThen_ret ?_ | refine inBlock_normal ?_ | refine inBlock_ret ?_ | refine inBlock_here ?_ | refine inBlock_out rfl ?_ | refine LWp.seq ?_ | refine LWp.region ?_ | refine LWp.block ?_ | refine LWp.exit ?_ | refine LWp.ret ?_ | refine LWp.skip ?_ | refine LOps.val (LVal.call rfl rfl (by rw [hP]; exact Try.func15) rfl (by decide) (ha)) rfl rfl rfl ?_ | refine LOps.val (LVal.call rfl rfl (by rw [hP]; exact Try.func32) rfl (by decide) (hr)) rfl rfl rfl ?_ | refine LOps.whenC (LVal.call rfl rfl (by rw [hP]; exact Try.func15) rfl (by decide) (ha)) ?_ | refine LOps.whenC (LVal.call rfl rfl (by rw [hP]; exact Try.func32) rfl (by decide) (hr)) ?_ | refine LOps.valA ?_ | refine LOps.outA ?_ | refine LOps.whenA ?_ | refine LOps.pickA ?_ | refine LOps.storeA ?_)
    exact ⟨_, LRes.two rfl, rfl, .refl _⟩
  | some d =>
    repeat (first | refine LOps.nil ?_ | refine andThen_normal ?_ | refine andThen_exit ?_ | refine andThen_ret ?_ | refine inBlock_normal ?_ | refine inBlock_ret ?_ | refine inBlock_here ?_ | refine inBlock_out rfl ?_ | refine LWp.seq ?_ | refine LWp.region ?_ | refine LWp.block ?_ | refine LWp.exit ?_ | refine LWp.ret ?_ | refine LWp.skip ?_ | refine LOps.val (LVal.call rfl rfl (by rw [hP]; exact Try.func15) rfl (by decide) (ha)) rfl rfl rfl ?_ | refine LOps.val (LVal.call rfl rfl (by rw [hP]; exact Try.func32) rfl (by decide) (hr)) rfl rfl rfl ?_ | refine LOps.whenC (LVal.call rfl rfl (by rw [hP]; exact Try.func15) rfl (by decide) (ha)) ?_ | refine LOps.whenC (LVal.call rfl rfl (by rw [hP]; exact Try.func32) rfl (by decide) (hr)) ?_ | refine LOps.valA ?_ | refine LOps.outA ?_ | refine LOps.whenA ?_ | refine LOps.pickA ?_ | refine LOps.storeA ?_)
    exact ⟨_, LRes.two rfl, rfl, .refl _⟩
end Go.Proofs.Ytkjbdldjfjkneaa.LF
