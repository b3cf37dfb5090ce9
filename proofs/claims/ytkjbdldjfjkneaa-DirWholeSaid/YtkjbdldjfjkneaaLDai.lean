/- The directory (instance I): its data; none, Len, At, Hi, New, Find. (Printed by gen_dir.sh.) -/
import Derived.Test.YtkjbdldjfjkneaaLDz
set_option linter.unusedVariables false
set_option linter.unusedSimpArgs false
namespace Go.Proofs.Ytkjbdldjfjkneaa.LF
open Go.RowKit
set_option linter.unusedVariables false

abbrev dLI (d : Dv Int) : List LV := [.sl .sh (d.los.map sL), .sl .sh (d.xs.map iL)]
/-- A directory's pointer. -/
def dTI : Option (Dv Int) → TV
  | none => .one (.v (.pointer none))
  | some d => .one (.p (dLI d))

theorem newI_F {G : Ctx} (hP : G.P = Try.prog) (x : Int) : LFun G 11 [.one (iv x)] (dTI (some ⟨[noBytes], [x]⟩)) := LFun.of fun S => by
  have hD : TabOK G.P D := by rw [hP]; exact hD0
  refine LCalls.enter (fn := Try.f11) (by rw [hP]; exact Try.func11) rfl rfl ?_
  repeat (first | refine LOps.nil ?_ | refine andThen_normal ?_ | refine andThen_exit ?_ | refine andThen_ret ?_ | refine inBlock_normal ?_ | refine inBlock_ret ?_ | refine inBlock_here ?_ | refine inBlock_out rfl ?_ | refine LWp.seq ?_ | refine LWp.region ?_ | refine LWp.block ?_ | refine LWp.exit ?_ | refine LWp.ret ?_ | refine LWp.skip ?_ | refine LOps.valA ?_ | refine LOps.outA ?_ | refine LOps.whenA ?_ | refine LOps.pickA ?_ | refine LOps.storeA ?_)
  refine LOps.do (LDo.box rfl rfl) rfl rfl rfl ?_
  rintro _ _ ⟨b, hb, rfl, rfl⟩
  repeat (first | refine LWp.freezeP 2 rfl (box_new _ _ _) ?_ | refine LOps.nil ?_ | refine andThen_normal ?_ | refine andThen_exit ?_ | refine andThen_ret ?_ | refine inBlock_normal ?_ | refine inBlock_ret ?_ | refine inBlock_here ?_ | refine inBlock_out rfl ?_ | refine LWp.seq ?_ | refine LWp.region ?_ | refine LWp.block ?_ | refine LWp.exit ?_ | refine LWp.ret ?_ | refine LWp.skip ?_ | refine LOps.valA ?_ | refine LOps.outA ?_ | refine LOps.whenA ?_ | refine LOps.pickA ?_ | refine LOps.storeA ?_)
  exact ⟨_, LRes.one rfl, rfl, (LS.le.newBox (.refl _) hb _).delBox hb.box⟩

def noneBI : Option (Dv Int) → Bool
  | none => true
  | some d => d.los.length == 0
theorem noneI_F {G : Ctx} (hP : G.P = Try.prog) (d : Option (Dv Int)) : LFun G 36 [dTI d] (.one (bv (noneBI d))) := LFun.of fun S => by
  have hD : TabOK G.P D := by rw [hP]; exact hD0
  refine LCalls.enter (fn := Try.f36) (by rw [hP]; exact Try.func36) rfl rfl ?_
  cases d with
  | none =>
    repeat (first | refine LOps.nil ?_ | refine andThen_normal ?_ | refine andThen_exit ?_ | refine andThen_ret ?_ | refine inBlock_normal ?_ | refine inBlock_ret ?_ | refine inBlock_here ?_ | refine inBlock_out rfl ?_ | refine LWp.seq ?_ | refine LWp.region ?_ | refine LWp.block ?_ | refine LWp.exit ?_ | refine LWp.ret ?_ | refine LWp.skip ?_ | refine LOps.valA ?_ | refine LOps.outA ?_ | refine LOps.whenA ?_ | refine LOps.pickA ?_ | refine LOps.storeA ?_)
    exact ⟨_, LRes.one rfl, rfl, .refl _⟩
  | some d =>
    repeat (first | refine LOps.nil ?_ | refine andThen_normal ?_ | refine andThen_exit ?_ | refine andThen_ret ?_ | refine inBlock_normal ?_ | refine inBlock_ret ?_ | refine inBlock_here ?_ | refine inBlock_out rfl ?_ | refine LWp.seq ?_ | refine LWp.region ?_ | refine LWp.block ?_ | refine LWp.exit ?_ | refine LWp.ret ?_ | refine LWp.skip ?_ | refine LOps.valA ?_ | refine LOps.outA ?_ | refine LOps.whenA ?_ | refine LOps.pickA ?_ | refine LOps.storeA ?_)
    refine ⟨_, LRes.one rfl, ?_, .refl _⟩
    have e : (((d.los.map sL).length : Int) == 0) = (d.los.length == 0) := by rw [List.length_map, Bool.eq_iff_iff]; simp
    show TV.one (bv (false || (((d.los.map sL).length : Int) == 0))) = _
    rw [Bool.false_or, e]; rfl

def lenDI : Option (Dv Int) → Nat
  | none => 0
  | some d => d.los.length
theorem lenI_F {G : Ctx} (hP : G.P = Try.prog) (d : Option (Dv Int)) : LFun G 14 [dTI d] (.one (iv (lenDI d : Nat))) := LFun.of fun S => by
  have hD : TabOK G.P D := by rw [hP]; exact hD0
  have hn := noneI_F hP d
  refine LCalls.enter (fn := Try.f14) (by rw [hP]; exact Try.func14) rfl rfl ?_
  cases d with
  | none =>
    repeat (first | refine LWp.condT rfl ?_ | refine LOps.nil ?_ | refine andThen_normal ?_ | refine andThen_exit ?_ | refine andThen_ret ?_ | refine inBlock_normal ?_ | refine inBlock_ret ?_ | refine inBlock_here ?_ | refine inBlock_out rfl ?_ | refine LWp.seq ?_ | refine LWp.region ?_ | refine LWp.block ?_ | refine LWp.exit ?_ | refine LWp.ret ?_ | refine LWp.skip ?_ | refine LOps.val (LVal.call rfl rfl (by rw [hP]; exact Try.func36) rfl (by decide) (hn)) rfl rfl rfl ?_ | refine LOps.whenC (LVal.call rfl rfl (by rw [hP]; exact Try.func36) rfl (by decide) (hn)) ?_ | refine LOps.valA ?_ | refine LOps.outA ?_ | refine LOps.whenA ?_ | refine LOps.pickA ?_ | refine LOps.storeA ?_)
    exact ⟨_, LRes.one rfl, rfl, .refl _⟩
  | some d =>
    repeat (first | refine LOps.nil ?_ | refine andThen_normal ?_ | refine andThen_exit ?_ | refine andThen_ret ?_ | refine inBlock_normal ?_ | refine inBlock_ret ?_ | refine inBlock_here ?_ | refine inBlock_out rfl ?_ | refine LWp.seq ?_ | refine LWp.region ?_ | refine LWp.block ?_ | refine LWp.exit ?_ | refine LWp.ret ?_ | refine LWp.skip ?_ | refine LOps.val (LVal.call rfl rfl (by rw [hP]; exact Try.func36) rfl (by decide) (hn)) rfl rfl rfl ?_ | refine LOps.whenC (LVal.call rfl rfl (by rw [hP]; exact Try.func36) rfl (by decide) (hn)) ?_ | refine LOps.valA ?_ | refine LOps.outA ?_ | refine LOps.whenA ?_ | refine LOps.pickA ?_ | refine LOps.storeA ?_)
    refine LWp.cond rfl (fun h => ?_) (fun h => ?_)
    · have e : lenDI (some d) = 0 := by
        have h : (d.los.length == 0) = true := h
        show d.los.length = 0
        simpa using h
      rw [e]
      repeat (first | refine LOps.nil ?_ | refine andThen_normal ?_ | refine andThen_exit ?_ | refine andThen_ret ?_ | refine inBlock_normal ?_ | refine inBlock_ret ?_ | refine inBlock_here ?_ | refine inBlock_out rfl ?_ | refine LWp.seq ?_ | refine LWp.region ?_ | refine LWp.block ?_ | refine LWp.exit ?_ | refine LWp.ret ?_ | refine LWp.skip ?_ | refine LOps.valA ?_ | refine LOps.outA ?_ | refine LOps.whenA ?_ | refine LOps.pickA ?_ | refine LOps.storeA ?_)
      exact ⟨_, LRes.one rfl, rfl, .refl _⟩
    · have e : ((d.los.map sL).length : Int) = ((lenDI (some d) : Nat) : Int) := by rw [List.length_map]; rfl
      rw [← e]
      repeat (first | refine LOps.nil ?_ | refine andThen_normal ?_ | refine andThen_exit ?_ | refine andThen_ret ?_ | refine inBlock_normal ?_ | refine inBlock_ret ?_ | refine inBlock_here ?_ | refine inBlock_out rfl ?_ | refine LWp.seq ?_ | refine LWp.region ?_ | refine LWp.block ?_ | refine LWp.exit ?_ | refine LWp.ret ?_ | refine LWp.skip ?_ | refine LOps.valA ?_ | refine LOps.outA ?_ | refine LOps.whenA ?_ | refine LOps.pickA ?_ | refine LOps.storeA ?_)
      exact ⟨_, LRes.one rfl, rfl, .refl _⟩

/-- What stands at a place. -/
def atDI : Option (Dv Int) → Int → ByteArray × Int × Bool
  | none, _ => (noBytes, 0, false)
  | some d, i => if 0 ≤ i ∧ i < d.los.length then (d.los.getD i.toNat noBytes, d.xs.getD i.toNat 0, true) else (noBytes, 0, false)

set_option maxHeartbeats 4000000 in
theorem atI_F {G : Ctx} (hP : G.P = Try.prog) (d : Option (Dv Int)) (hd : ∀ x, d = some x → x.wf) (i : Int) : LFun G 15 [dTI d, .one (iv i)] (.tup [.one (sv (atDI d i).1), .one (iv (atDI d i).2.1), .one (bv (atDI d i).2.2)]) := LFun.of fun S => by
  have hD : TabOK G.P D := by rw [hP]; exact hD0
  have hn := noneI_F hP d
  refine LCalls.enter (fn := Try.f15) (by rw [hP]; exact Try.func15) rfl rfl ?_
  cases d with
  | none =>
    repeat (first | refine LWp.condT rfl ?_ | refine LOps.nil ?_ | refine andThen_normal ?_ | refine andThen_exit ?_ | refine andThen_ret ?_ | refine inBlock_normal ?_ | refine inBlock_ret ?_ | refine inBlock_here ?_ | refine inBlock_out rfl ?_ | refine LWp.seq ?_ | refine LWp.region ?_ | refine LWp.block ?_ | refine LWp.exit ?_ | refine LWp.ret ?_ | refine LWp.skip ?_ | refine LOps.val (LVal.call rfl rfl (by rw [hP]; exact Try.func36) rfl (by decide) (hn)) rfl rfl rfl ?_ | refine LOps.whenC (LVal.call rfl rfl (by rw [hP]; exact Try.func36) rfl (by decide) (hn)) ?_ | refine LOps.valA ?_ | refine LOps.outA ?_ | refine LOps.whenA ?_ | refine LOps.pickA ?_ | refine LOps.storeA ?_)
    exact ⟨_, LRes.three rfl, rfl, .refl _⟩
  | some d =>
    have hd := hd d rfl
    have hml : (d.los.map sL).length = d.los.length := List.length_map ..
    have hmx : (d.xs.map iL).length = d.xs.length := List.length_map ..
    repeat (first | refine LOps.nil ?_ | refine andThen_normal ?_ | refine andThen_exit ?_ | refine andThen_ret ?_ | refine inBlock_normal ?_ | refine inBlock_ret ?_ | refine inBlock_here ?_ | refine inBlock_out rfl ?_ | refine LWp.seq ?_ | refine LWp.region ?_ | refine LWp.block ?_ | refine LWp.exit ?_ | refine LWp.ret ?_ | refine LWp.skip ?_ | refine LOps.val (LVal.call rfl rfl (by rw [hP]; exact Try.func36) rfl (by decide) (hn)) rfl rfl rfl ?_ | refine LOps.whenC (LVal.call rfl rfl (by rw [hP]; exact Try.func36) rfl (by decide) (hn)) ?_ | refine LOps.valA ?_ | refine LOps.outA ?_ | refine LOps.whenA ?_ | refine LOps.pickA ?_ | refine LOps.storeA ?_)
    refine LWp.cond rfl (fun h => ?_) (fun h => ?_)
    · have h : (((noneBI (some d)) || decide (i < 0)) || decide (i ≥ ((d.los.map sL).length : Int))) = true := h
      have hno : ¬ (0 ≤ i ∧ i < d.los.length) := by
        rw [hml] at h
        simp [noneBI] at h
        rintro ⟨h1, h2⟩
        rcases h with (h | h) | h
        · rw [h] at h2; simp at h2; omega
        · omega
        · omega
      have e : atDI (some d) i = (noBytes, 0, false) := by simp only [atDI, if_neg hno]
      rw [e]
      repeat (first | refine LOps.nil ?_ | refine andThen_normal ?_ | refine andThen_exit ?_ | refine andThen_ret ?_ | refine inBlock_normal ?_ | refine inBlock_ret ?_ | refine inBlock_here ?_ | refine inBlock_out rfl ?_ | refine LWp.seq ?_ | refine LWp.region ?_ | refine LWp.block ?_ | refine LWp.exit ?_ | refine LWp.ret ?_ | refine LWp.skip ?_ | refine LOps.valA ?_ | refine LOps.outA ?_ | refine LOps.whenA ?_ | refine LOps.pickA ?_ | refine LOps.storeA ?_)
      exact ⟨_, LRes.three rfl, rfl, .refl _⟩
    · have h : (((noneBI (some d)) || decide (i < 0)) || decide (i ≥ ((d.los.map sL).length : Int))) = false := h
      rw [Bool.or_eq_false_iff, Bool.or_eq_false_iff, hml, decide_eq_false_iff_not, decide_eq_false_iff_not] at h
      obtain ⟨k, rfl⟩ : ∃ k : Nat, i = k := ⟨i.toNat, by omega⟩
      have h1 : k < d.los.length := by omega
      have h2 : k < d.xs.length := by rw [← hd.len]; exact h1
      have e : atDI (some d) k = (d.los[k], d.xs[k], true) := by
        simp only [atDI, if_pos (show (0 : Int) ≤ (k : Int) ∧ (k : Int) < d.los.length by omega), Int.toNat_natCast]
        simp [h1, h2]
      rw [e]
      repeat (first | refine LOps.nil ?_ | refine andThen_normal ?_ | refine andThen_exit ?_ | refine andThen_ret ?_ | refine inBlock_normal ?_ | refine inBlock_ret ?_ | refine inBlock_here ?_ | refine inBlock_out rfl ?_ | refine LWp.seq ?_ | refine LWp.region ?_ | refine LWp.block ?_ | refine LWp.exit ?_ | refine LWp.ret ?_ | refine LWp.skip ?_ | refine LOps.valA ?_ | refine LOps.outA ?_ | refine LOps.whenA ?_ | refine LOps.pickA ?_ | refine LOps.storeA ?_)
      refine LWp.drawL [0, 1, 2, 3, 4, 5, 6, 7, 8, 9, 10, 11, 12, 13, 14, 15, 16] (by rw [hP]; rfl) rfl ?_
      repeat (first | refine LRl.nil ?_ | refine LRl.valA ?_ | refine LRl.outA ?_ | refine LRl.whenA ?_ | refine LRl.pickA ?_)
      repeat (first | refine LOps.nil ?_ | refine andThen_normal ?_ | refine andThen_exit ?_ | refine andThen_ret ?_ | refine inBlock_normal ?_ | refine inBlock_ret ?_ | refine inBlock_here ?_ | refine inBlock_out rfl ?_ | refine LWp.seq ?_ | refine LWp.region ?_ | refine LWp.block ?_ | refine LWp.exit ?_ | refine LWp.ret ?_ | refine LWp.skip ?_ | refine LOps.valA ?_ | refine LOps.outA ?_ | refine LOps.whenA ?_ | refine LOps.pickA ?_ | refine LOps.storeA ?_)
      exact ⟨_, LRes.three rfl, rfl, .refl _⟩

def hiDI : Option (Dv Int) → Int → ByteArray × Bool
  | none, _ => (noBytes, false)
  | some d, i => if 0 ≤ i ∧ i + 1 < d.los.length then (d.los.getD (i.toNat + 1) noBytes, true) else (noBytes, false)

set_option maxHeartbeats 4000000 in
theorem hiI_F {G : Ctx} (hP : G.P = Try.prog) (d : Option (Dv Int)) (hd : ∀ x, d = some x → x.los.length ≤ 1000000) (i : Int) : LFun G 16 [dTI d, .one (iv i)] (.tup [.one (sv (hiDI d i).1), .one (bv (hiDI d i).2)]) := LFun.of fun S => by
  have hD : TabOK G.P D := by rw [hP]; exact hD0
  have hn := noneI_F hP d
  refine LCalls.enter (fn := Try.f16) (by rw [hP]; exact Try.func16) rfl rfl ?_
  cases d with
  | none =>
    repeat (first | refine LWp.condT rfl ?_ | refine LOps.nil ?_ | refine andThen_normal ?_ | refine andThen_exit ?_ | refine andThen_ret ?_ | refine inBlock_normal ?_ | refine inBlock_ret ?_ | refine inBlock_here ?_ | refine inBlock_out rfl ?_ | refine LWp.seq ?_ | refine LWp.region ?_ | refine LWp.block ?_ | refine LWp.exit ?_ | refine LWp.ret ?_ | refine LWp.skip ?_ | refine LOps.val (LVal.call rfl rfl (by rw [hP]; exact Try.func36) rfl (by decide) (hn)) rfl rfl rfl ?_ | refine LOps.whenC (LVal.call rfl rfl (by rw [hP]; exact Try.func36) rfl (by decide) (hn)) ?_ | refine LOps.valA ?_ | refine LOps.outA ?_ | refine LOps.whenA ?_ | refine LOps.pickA ?_ | refine LOps.storeA ?_)
    exact ⟨_, LRes.two rfl, rfl, .refl _⟩
  | some d =>
    have hd := hd d rfl
    have hml : (d.los.map sL).length = d.los.length := List.length_map ..
    repeat (first | refine LOps.nil ?_ | refine andThen_normal ?_ | refine andThen_exit ?_ | refine andThen_ret ?_ | refine inBlock_normal ?_ | refine inBlock_ret ?_ | refine inBlock_here ?_ | refine inBlock_out rfl ?_ | refine LWp.seq ?_ | refine LWp.region ?_ | refine LWp.block ?_ | refine LWp.exit ?_ | refine LWp.ret ?_ | refine LWp.skip ?_ | refine LOps.val (LVal.call rfl rfl (by rw [hP]; exact Try.func36) rfl (by decide) (hn)) rfl rfl rfl ?_ | refine LOps.whenC (LVal.call rfl rfl (by rw [hP]; exact Try.func36) rfl (by decide) (hn)) ?_ | refine LOps.valA ?_ | refine LOps.outA ?_ | refine LOps.whenA ?_ | refine LOps.pickA ?_ | refine LOps.storeA ?_)
    refine LWp.cond rfl (fun h => ?_) (fun h => ?_)
    · have h : (((noneBI (some d)) || decide (i < 0)) || decide (i ≥ ((d.los.map sL).length : Int) - 1)) = true := h
      have hno : ¬ (0 ≤ i ∧ i + 1 < d.los.length) := by
        rw [hml] at h
        simp [noneBI] at h
        rintro ⟨h1, h2⟩
        rcases h with (h | h) | h
        · rw [h] at h2; simp at h2; omega
        · omega
        · omega
      have e : hiDI (some d) i = (noBytes, false) := by simp only [hiDI, if_neg hno]
      rw [e]
      repeat (first | refine LOps.nil ?_ | refine andThen_normal ?_ | refine andThen_exit ?_ | refine andThen_ret ?_ | refine inBlock_normal ?_ | refine inBlock_ret ?_ | refine inBlock_here ?_ | refine inBlock_out rfl ?_ | refine LWp.seq ?_ | refine LWp.region ?_ | refine LWp.block ?_ | refine LWp.exit ?_ | refine LWp.ret ?_ | refine LWp.skip ?_ | refine LOps.valA ?_ | refine LOps.outA ?_ | refine LOps.whenA ?_ | refine LOps.pickA ?_ | refine LOps.storeA ?_)
      exact ⟨_, LRes.two rfl, rfl, .refl _⟩
    · have h : (((noneBI (some d)) || decide (i < 0)) || decide (i ≥ ((d.los.map sL).length : Int) - 1)) = false := h
      rw [Bool.or_eq_false_iff, Bool.or_eq_false_iff, hml, decide_eq_false_iff_not, decide_eq_false_iff_not] at h
      obtain ⟨k, rfl⟩ : ∃ k : Nat, i = k := ⟨i.toNat, by omega⟩
      have h1 : k + 1 < d.los.length := by omega
      have e : hiDI (some d) k = (d.los[k + 1], true) := by
        simp only [hiDI, if_pos (show (0 : Int) ≤ (k : Int) ∧ (k : Int) + 1 < d.los.length by omega), Int.toNat_natCast]
        simp [h1]
      rw [e]
      repeat (first | refine LOps.nil ?_ | refine andThen_normal ?_ | refine andThen_exit ?_ | refine andThen_ret ?_ | refine inBlock_normal ?_ | refine inBlock_ret ?_ | refine inBlock_here ?_ | refine inBlock_out rfl ?_ | refine LWp.seq ?_ | refine LWp.region ?_ | refine LWp.block ?_ | refine LWp.exit ?_ | refine LWp.ret ?_ | refine LWp.skip ?_ | refine LOps.valA ?_ | refine LOps.outA ?_ | refine LOps.whenA ?_ | refine LOps.pickA ?_ | refine LOps.storeA ?_)
      exact ⟨_, LRes.two rfl, rfl, .refl _⟩

/-- The one that has a key. -/
def findDI : Option (Dv Int) → ByteArray → Int × Int
  | none, _ => (-1, 0)
  | some d, key => ((d.spot key : Nat), d.xs.getD (d.spot key) 0)

set_option maxHeartbeats 4000000 in
theorem findI_F {G : Ctx} (hP : G.P = Try.prog) (d : Option (Dv Int)) (hd : ∀ x, d = some x → x.wf) (key : ByteArray) : LFun G 13 [dTI d, .one (sv key)] (.tup [.one (iv (findDI d key).1), .one (iv (findDI d key).2)]) := LFun.of fun S => by
  have hD : TabOK G.P D := by rw [hP]; exact hD0
  have hn := noneI_F hP d
  refine LCalls.enter (fn := Try.f13) (by rw [hP]; exact Try.func13) rfl rfl ?_
  cases d with
  | none =>
    repeat (first | refine LWp.condT rfl ?_ | refine LOps.nil ?_ | refine andThen_normal ?_ | refine andThen_exit ?_ | refine andThen_ret ?_ | refine inBlock_normal ?_ | refine inBlock_ret ?_ | refine inBlock_here ?_ | refine inBlock_out rfl ?_ | refine LWp.seq ?_ | refine LWp.region ?_ | refine LWp.block ?_ | refine LWp.exit ?_ | refine LWp.ret ?_ | refine LWp.skip ?_ | refine LOps.val (LVal.call rfl rfl (by rw [hP]; exact Try.func36) rfl (by decide) (hn)) rfl rfl rfl ?_ | refine LOps.whenC (LVal.call rfl rfl (by rw [hP]; exact Try.func36) rfl (by decide) (hn)) ?_ | refine LOps.valA ?_ | refine LOps.outA ?_ | refine LOps.whenA ?_ | refine LOps.pickA ?_ | refine LOps.storeA ?_)
    exact ⟨_, LRes.two rfl, rfl, .refl _⟩
  | some d =>
    have hd := hd d rfl
    have hno : noneBI (some d) = false := by
      have := hd.pos
      simp [noneBI]; intro e; rw [e] at this; simp at this
    rw [hno] at hn
    have hbs := bs_F hP d.los (by have := hd.small; omega) key hd.rises
    have hs := hd.spot_lt key
    have hs2 : d.spot key < d.xs.length := by rw [← hd.len]; exact hs
    have e : findDI (some d) key = (((d.spot key : Nat) : Int), d.xs[d.spot key]) := by
      simp only [findDI]; simp [hs2]
    rw [e]
    repeat (first | refine LWp.seq (LWp.cut 5 (fun T' S' => S' = S ∧ ∃ T'', T' = over T'' [(0, dTI (some d)), (7, .one (iv (d.spot key : Nat)))]) rfl ?_ ?_) | refine LWp.condF rfl ?_ | refine LOps.nil ?_ | refine andThen_normal ?_ | refine andThen_exit ?_ | refine andThen_ret ?_ | refine inBlock_normal ?_ | refine inBlock_ret ?_ | refine inBlock_here ?_ | refine inBlock_out rfl ?_ | refine LWp.seq ?_ | refine LWp.region ?_ | refine LWp.block ?_ | refine LWp.exit ?_ | refine LWp.ret ?_ | refine LWp.skip ?_ | refine LOps.val (LVal.call rfl rfl (by rw [hP]; exact Try.func36) rfl (by decide) (hn)) rfl rfl rfl ?_ | refine LOps.val (LVal.call rfl rfl (by rw [hP]; exact Try.func37) rfl (by decide) (hbs)) rfl rfl rfl ?_ | refine LOps.whenC (LVal.call rfl rfl (by rw [hP]; exact Try.func36) rfl (by decide) (hn)) ?_ | refine LOps.whenC (LVal.call rfl rfl (by rw [hP]; exact Try.func37) rfl (by decide) (hbs)) ?_ | refine LOps.valA ?_ | refine LOps.outA ?_ | refine LOps.whenA ?_ | refine LOps.pickA ?_ | refine LOps.storeA ?_)
    · repeat (first | refine LOps.nil ?_ | refine andThen_normal ?_ | refine andThen_exit ?_ | refine andThen_ret ?_ | refine inBlock_normal ?_ | refine inBlock_ret ?_ | refine inBlock_here ?_ | refine inBlock_out rfl ?_ | refine LWp.seq ?_ | refine LWp.region ?_ | refine LWp.block ?_ | refine LWp.exit ?_ | refine LWp.ret ?_ | refine LWp.skip ?_ | refine LOps.valA ?_ | refine LOps.outA ?_ | refine LOps.whenA ?_ | refine LOps.pickA ?_ | refine LOps.storeA ?_)
      refine LWp.cond rfl (fun h => ?_) (fun h => ?_)
      · have h : (!hasB d.los key) = true := h
        have hf : hasB d.los key = false := by simpa using h
        have e2 : ((cntB d.los key : Nat) : Int) - 1 = ((d.spot key : Nat) : Int) := by have := hd.spot_no key hf; omega
        have hc := hd.spot_no key hf
        have hcl := cntB_le d.los key
        have := hd.small
        repeat (first | refine LOps.nil ?_ | refine andThen_normal ?_ | refine andThen_exit ?_ | refine andThen_ret ?_ | refine inBlock_normal ?_ | refine inBlock_ret ?_ | refine inBlock_here ?_ | refine inBlock_out rfl ?_ | refine LWp.seq ?_ | refine LWp.region ?_ | refine LWp.block ?_ | refine LWp.exit ?_ | refine LWp.ret ?_ | refine LWp.skip ?_ | refine LOps.valA ?_ | refine LOps.outA ?_ | refine LOps.whenA ?_ | refine LOps.pickA ?_ | refine LOps.storeA ?_)
        exact ⟨rfl, _, holds.over ⟨rfl, by rw [← e2]; rfl, trivial⟩⟩
      · have h : (!hasB d.los key) = false := h
        have hf : hasB d.los key = true := by simpa using h
        have e2 : ((cntB d.los key : Nat) : Int) = ((d.spot key : Nat) : Int) := by rw [hd.spot_yes key hf]
        repeat (first | refine LOps.nil ?_ | refine andThen_normal ?_ | refine andThen_exit ?_ | refine andThen_ret ?_ | refine inBlock_normal ?_ | refine inBlock_ret ?_ | refine inBlock_here ?_ | refine inBlock_out rfl ?_ | refine LWp.seq ?_ | refine LWp.region ?_ | refine LWp.block ?_ | refine LWp.exit ?_ | refine LWp.ret ?_ | refine LWp.skip ?_ | refine LOps.valA ?_ | refine LOps.outA ?_ | refine LOps.whenA ?_ | refine LOps.pickA ?_ | refine LOps.storeA ?_)
        exact ⟨rfl, _, holds.over ⟨rfl, by rw [← e2]; rfl, trivial⟩⟩
    rintro _ S ⟨rfl, T'', rfl⟩
    have hml : (d.los.map sL).length = d.los.length := List.length_map ..
    repeat (first | refine LOps.nil ?_ | refine andThen_normal ?_ | refine andThen_exit ?_ | refine andThen_ret ?_ | refine inBlock_normal ?_ | refine inBlock_ret ?_ | refine inBlock_here ?_ | refine inBlock_out rfl ?_ | refine LWp.seq ?_ | refine LWp.region ?_ | refine LWp.block ?_ | refine LWp.exit ?_ | refine LWp.ret ?_ | refine LWp.skip ?_ | refine LOps.valA ?_ | refine LOps.outA ?_ | refine LOps.whenA ?_ | refine LOps.pickA ?_ | refine LOps.storeA ?_)
    refine LWp.drawL [0, 1, 2, 3, 4, 5, 6, 7, 8, 9] (by rw [hP]; rfl) rfl ?_
    repeat (first | refine LRl.nil ?_ | refine LRl.valA ?_ | refine LRl.outA ?_ | refine LRl.whenA ?_ | refine LRl.pickA ?_)
    repeat (first | refine LOps.nil ?_ | refine andThen_normal ?_ | refine andThen_exit ?_ | refine andThen_ret ?_ | refine inBlock_normal ?_ | refine inBlock_ret ?_ | refine inBlock_here ?_ | refine inBlock_out rfl ?_ | refine LWp.seq ?_ | refine LWp.region ?_ | refine LWp.block ?_ | refine LWp.exit ?_ | refine LWp.ret ?_ | refine LWp.skip ?_ | refine LOps.valA ?_ | refine LOps.outA ?_ | refine LOps.whenA ?_ | refine LOps.pickA ?_ | refine LOps.storeA ?_)
    exact ⟨_, LRes.two rfl, rfl, .refl _⟩
end Go.Proofs.Ytkjbdldjfjkneaa.LF
