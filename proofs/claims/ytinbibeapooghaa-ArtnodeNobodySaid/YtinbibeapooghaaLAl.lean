/- The walk of the law 'ArtnodeNobody': a nil node. -/
import Derived.Test.YtinbibeapooghaaLAi
import Derived.Test.YtinbibeapooghaaLGc
set_option linter.unusedVariables false
set_option linter.unusedSimpArgs false
namespace Go.Proofs.Ytinbibeapooghaa.LF
open Go.RowKit
set_option linter.unusedVariables false
attribute [local irreducible] andThen inBlock LWp LOps LCalls

abbrev nilN : TV := .one (.v (.pointer none))
section
variable {G : Ctx} (hP : G.P = Try.prog)
include hP
theorem setN_F (c x : Int) : LFun G 11 [nilN, .one (uv c), .one (iv x)] (.one (bv false)) := LFun.of fun S => by
  have hD : TabOK G.P D := by rw [hP]; exact hD0
  refine LCalls.enter (fn := Try.f11) (by rw [hP]; exact Try.func11) rfl rfl ?_
  repeat (first | refine LWp.condT rfl ?_ | refine LOps.nil ?_ | refine andThen_normal ?_ | refine andThen_exit ?_ | refine andThen_ret ?_ | refine inBlock_normal ?_ | refine inBlock_ret ?_ | refine inBlock_here ?_ | refine inBlock_out rfl ?_ | refine LWp.seq ?_ | refine LWp.region ?_ | refine LWp.block ?_ | refine LWp.exit ?_ | refine LWp.ret ?_ | refine LWp.skip ?_ | refine LOps.val (LVal.call rfl rfl (by rw [hP]; exact Try.func29) rfl (by decide) (noneNI_F hP)) rfl rfl rfl ?_ | refine LOps.whenC (LVal.call rfl rfl (by rw [hP]; exact Try.func29) rfl (by decide) (noneNI_F hP)) ?_ | refine LOps.valA ?_ | refine LOps.outA ?_ | refine LOps.whenA ?_ | refine LOps.pickA ?_ | refine LOps.storeA ?_)
  exact ⟨_, LRes.one rfl, rfl, .refl _⟩
theorem getN_F (c : Int) : LFun G 18 [nilN, .one (uv c)] (.tup [.one (iv 0), .one (bv false)]) := LFun.of fun S => by
  have hD : TabOK G.P D := by rw [hP]; exact hD0
  refine LCalls.enter (fn := Try.f18) (by rw [hP]; exact Try.func18) rfl rfl ?_
  repeat (first | refine LWp.condT rfl ?_ | refine LOps.nil ?_ | refine andThen_normal ?_ | refine andThen_exit ?_ | refine andThen_ret ?_ | refine inBlock_normal ?_ | refine inBlock_ret ?_ | refine inBlock_here ?_ | refine inBlock_out rfl ?_ | refine LWp.seq ?_ | refine LWp.region ?_ | refine LWp.block ?_ | refine LWp.exit ?_ | refine LWp.ret ?_ | refine LWp.skip ?_ | refine LOps.val (LVal.call rfl rfl (by rw [hP]; exact Try.func29) rfl (by decide) (noneNI_F hP)) rfl rfl rfl ?_ | refine LOps.whenC (LVal.call rfl rfl (by rw [hP]; exact Try.func29) rfl (by decide) (noneNI_F hP)) ?_ | refine LOps.valA ?_ | refine LOps.outA ?_ | refine LOps.whenA ?_ | refine LOps.pickA ?_ | refine LOps.storeA ?_)
  exact ⟨_, LRes.two rfl, rfl, .refl _⟩
theorem dropN_F (c : Int) : LFun G 13 [nilN, .one (uv c)] (.one (bv false)) := LFun.of fun S => by
  have hD : TabOK G.P D := by rw [hP]; exact hD0
  refine LCalls.enter (fn := Try.f13) (by rw [hP]; exact Try.func13) rfl rfl ?_
  repeat (first | refine LWp.condT rfl ?_ | refine LOps.nil ?_ | refine andThen_normal ?_ | refine andThen_exit ?_ | refine andThen_ret ?_ | refine inBlock_normal ?_ | refine inBlock_ret ?_ | refine inBlock_here ?_ | refine inBlock_out rfl ?_ | refine LWp.seq ?_ | refine LWp.region ?_ | refine LWp.block ?_ | refine LWp.exit ?_ | refine LWp.ret ?_ | refine LWp.skip ?_ | refine LOps.val (LVal.call rfl rfl (by rw [hP]; exact Try.func18) rfl (by decide) (getN_F hP c)) rfl rfl rfl ?_ | refine LOps.whenC (LVal.call rfl rfl (by rw [hP]; exact Try.func18) rfl (by decide) (getN_F hP c)) ?_ | refine LOps.valA ?_ | refine LOps.outA ?_ | refine LOps.whenA ?_ | refine LOps.pickA ?_ | refine LOps.storeA ?_)
  exact ⟨_, LRes.one rfl, rfl, .refl _⟩
theorem lenN_F : LFun G 20 [nilN] (.one (iv 0)) := LFun.of fun S => by
  have hD : TabOK G.P D := by rw [hP]; exact hD0
  refine LCalls.enter (fn := Try.f20) (by rw [hP]; exact Try.func20) rfl rfl ?_
  repeat (first | refine LWp.condT rfl ?_ | refine LOps.nil ?_ | refine andThen_normal ?_ | refine andThen_exit ?_ | refine andThen_ret ?_ | refine inBlock_normal ?_ | refine inBlock_ret ?_ | refine inBlock_here ?_ | refine inBlock_out rfl ?_ | refine LWp.seq ?_ | refine LWp.region ?_ | refine LWp.block ?_ | refine LWp.exit ?_ | refine LWp.ret ?_ | refine LWp.skip ?_ | refine LOps.val (LVal.call rfl rfl (by rw [hP]; exact Try.func29) rfl (by decide) (noneNI_F hP)) rfl rfl rfl ?_ | refine LOps.whenC (LVal.call rfl rfl (by rw [hP]; exact Try.func29) rfl (by decide) (noneNI_F hP)) ?_ | refine LOps.valA ?_ | refine LOps.outA ?_ | refine LOps.whenA ?_ | refine LOps.pickA ?_ | refine LOps.storeA ?_)
  exact ⟨_, LRes.one rfl, rfl, .refl _⟩
theorem kindN_F : LFun G 21 [nilN] (.one (iv 0)) := LFun.of fun S => by
  have hD : TabOK G.P D := by rw [hP]; exact hD0
  refine LCalls.enter (fn := Try.f21) (by rw [hP]; exact Try.func21) rfl rfl ?_
  repeat (first | refine LWp.condT rfl ?_ | refine LOps.nil ?_ | refine andThen_normal ?_ | refine andThen_exit ?_ | refine andThen_ret ?_ | refine inBlock_normal ?_ | refine inBlock_ret ?_ | refine inBlock_here ?_ | refine inBlock_out rfl ?_ | refine LWp.seq ?_ | refine LWp.region ?_ | refine LWp.block ?_ | refine LWp.exit ?_ | refine LWp.ret ?_ | refine LWp.skip ?_ | refine LOps.val (LVal.call rfl rfl (by rw [hP]; exact Try.func29) rfl (by decide) (noneNI_F hP)) rfl rfl rfl ?_ | refine LOps.whenC (LVal.call rfl rfl (by rw [hP]; exact Try.func29) rfl (by decide) (noneNI_F hP)) ?_ | refine LOps.valA ?_ | refine LOps.outA ?_ | refine LOps.whenA ?_ | refine LOps.pickA ?_ | refine LOps.storeA ?_)
  exact ⟨_, LRes.one rfl, rfl, .refl _⟩
theorem tellsN : TellsI G (fun _ => True) (.v (.pointer none)) [] := ⟨fun _ _ _ _ => trivial, fun S n _ => fromNI_F hP n S, rfl, .nil⟩
theorem wakes_F : LFun G 8 [] (.one (bv true)) := LFun.of fun S => wakes_L hP S
end

set_option maxHeartbeats 8000000 in
set_option maxRecDepth 20000 in
theorem nobody_L {G : Ctx} (hP : G.P = Try.prog) (c x : Int) (S : LS) :
    LCalls G 4 [.one (uv c), .one (iv x)] (fun r _ => r = .one (bv true)) S := by
  have hD : TabOK G.P D := by rw [hP]; exact hD0
  refine LCalls.enter (fn := Try.f4) (by rw [hP]; exact Try.func4) rfl rfl ?_
  repeat (first | refine LOps.nil ?_ | refine andThen_normal ?_ | refine andThen_exit ?_ | refine andThen_ret ?_ | refine inBlock_normal ?_ | refine inBlock_ret ?_ | refine inBlock_here ?_ | refine inBlock_out rfl ?_ | refine LWp.seq ?_ | refine LWp.region ?_ | refine LWp.block ?_ | refine LWp.exit ?_ | refine LWp.ret ?_ | refine LWp.skip ?_ | refine LOps.val (LVal.call rfl rfl (by rw [hP]; exact Try.func11) rfl (by decide) (setN_F hP c x)) rfl rfl rfl ?_ | refine LOps.val (LVal.call rfl rfl (by rw [hP]; exact Try.func18) rfl (by decide) (getN_F hP c)) rfl rfl rfl ?_ | refine LOps.val (LVal.call rfl rfl (by rw [hP]; exact Try.func13) rfl (by decide) (dropN_F hP c)) rfl rfl rfl ?_ | refine LOps.val (LVal.call rfl rfl (by rw [hP]; exact Try.func15) rfl (by decide) (fromNI_F hP x)) rfl rfl rfl ?_ | refine LOps.whenC (LVal.call rfl rfl (by rw [hP]; exact Try.func11) rfl (by decide) (setN_F hP c x)) ?_ | refine LOps.whenC (LVal.call rfl rfl (by rw [hP]; exact Try.func18) rfl (by decide) (getN_F hP c)) ?_ | refine LOps.whenC (LVal.call rfl rfl (by rw [hP]; exact Try.func13) rfl (by decide) (dropN_F hP c)) ?_ | refine LOps.whenC (LVal.call rfl rfl (by rw [hP]; exact Try.func15) rfl (by decide) (fromNI_F hP x)) ?_ | refine LOps.valA ?_ | refine LOps.outA ?_ | refine LOps.whenA ?_ | refine LOps.pickA ?_ | refine LOps.storeA ?_)
  have hle := LS.le.refl S
  refine LOps.do (LDo.alloc hD rfl rfl rfl) rfl rfl rfl ?_
  rintro _ _ ⟨b13, hb13, rfl, rfl⟩
  have s13 := hle.none hb13
  refine LOps.gen (fun S' => S.le S' ∧ S'.box b13 = some ([iv 0])) ⟨hle.newBox hb13 _, box_new _ _ _⟩ ?_
  clear hle hb13 
  rintro S13 ⟨hle, k13⟩
  repeat (first | refine LOps.nil ?_ | refine andThen_normal ?_ | refine andThen_exit ?_ | refine andThen_ret ?_ | refine inBlock_normal ?_ | refine inBlock_ret ?_ | refine inBlock_here ?_ | refine inBlock_out rfl ?_ | refine LWp.seq ?_ | refine LWp.region ?_ | refine LWp.block ?_ | refine LWp.exit ?_ | refine LWp.ret ?_ | refine LWp.skip ?_ | refine LOps.valA ?_ | refine LOps.outA ?_ | refine LOps.whenA ?_ | refine LOps.pickA ?_)
  refine LOps.storeA (b := b13) (off := 0) (cs := [iv 0]) (l := [iv 0]) ?_
  refine LOps.gen (fun S' => S.le S' ∧ S'.box b13 = some ([iv 0])) ⟨hle.setBox s13 _, (box_set _ _ _).trans (congrArg some (rfl))⟩ ?_
  clear hle k13
  rintro Ss ⟨hle, k13⟩
  repeat (first | refine LOps.nil ?_ | refine andThen_normal ?_ | refine andThen_exit ?_ | refine andThen_ret ?_ | refine inBlock_normal ?_ | refine inBlock_ret ?_ | refine inBlock_here ?_ | refine inBlock_out rfl ?_ | refine LWp.seq ?_ | refine LWp.region ?_ | refine LWp.block ?_ | refine LWp.exit ?_ | refine LWp.ret ?_ | refine LWp.skip ?_ | refine LOps.valA ?_ | refine LOps.outA ?_ | refine LOps.whenA ?_ | refine LOps.pickA ?_ | refine LOps.storeA ?_)
  refine LOps.do (LDo.callX (allI_L hP (tellsN hP) trivial) (by rw [hP]; exact Try.func19)) rfl rfl rfl ?_
  rintro _ S5 ⟨p, q, rfl, le5, _, _, _⟩
  replace hle := hle.trans le5
  replace k13 := le5.box _ _ k13
  clear le5
  repeat (first | refine LWp.condF rfl ?_ | refine LOps.nil ?_ | refine andThen_normal ?_ | refine andThen_exit ?_ | refine andThen_ret ?_ | refine inBlock_normal ?_ | refine inBlock_ret ?_ | refine inBlock_here ?_ | refine inBlock_out rfl ?_ | refine LWp.seq ?_ | refine LWp.region ?_ | refine LWp.block ?_ | refine LWp.exit ?_ | refine LWp.ret ?_ | refine LWp.skip ?_ | refine LOps.valA ?_ | refine LOps.outA ?_ | refine LOps.whenA ?_ | refine LOps.pickA ?_ | refine LOps.storeA ?_)
  refine LOps.do (LDo.callX (allI_L hP (tellsN hP) trivial) (by rw [hP]; exact Try.func19)) rfl rfl rfl ?_
  rintro _ S6 ⟨p, q, rfl, le6, _, _, htab⟩
  replace hle := hle.trans le6
  replace k13 := le6.box _ _ k13
  clear le6
  repeat (first | refine LOps.nil ?_ | refine andThen_normal ?_ | refine andThen_exit ?_ | refine andThen_ret ?_ | refine inBlock_normal ?_ | refine inBlock_ret ?_ | refine inBlock_here ?_ | refine inBlock_out rfl ?_ | refine LWp.seq ?_ | refine LWp.region ?_ | refine LWp.block ?_ | refine LWp.exit ?_ | refine LWp.ret ?_ | refine LWp.skip ?_ | refine LOps.valA ?_ | refine LOps.outA ?_ | refine LOps.whenA ?_ | refine LOps.pickA ?_ | refine LOps.storeA ?_)
  refine LWp.rangeFuncK (xs := yieldsI []) (C := tabI p q []) rfl (by rw [hP]; exact Try.func32) rfl rfl rfl rfl (fun x hx => by
      simp [yieldsI] at hx) (fun G' e => allI_iter (e.trans hP) [] (by decide) p q)
    (fun k S' => S.le S' ∧ S'.box b13 = some [iv 0] ∧ tabI p q [] S')
    (fun c k S' => False)
    (fun lp hlp k S2 S3 h hk => ⟨h.1.leO (hle.objNone hlp) hk, hk.box _ _ h.2.1, hk.box _ _ h.2.2.1, hk.box _ _ h.2.2.2⟩)
    (fun lp hlp c k S2 S3 h hk => h.elim) (fun k S h => h.2.2) ⟨hle, k13, htab⟩ ?_ ?_ ?_
  · rintro lp k' x S3 o hlp hx
    simp [yieldsI] at hx
  · clear hle k13 htab
    rintro S3 ⟨hle, k13, htab⟩
    repeat (first | refine LOps.nil ?_ | refine andThen_normal ?_ | refine andThen_exit ?_ | refine andThen_ret ?_ | refine inBlock_normal ?_ | refine inBlock_ret ?_ | refine inBlock_here ?_ | refine inBlock_out rfl ?_ | refine LWp.seq ?_ | refine LWp.region ?_ | refine LWp.block ?_ | refine LWp.exit ?_ | refine LWp.ret ?_ | refine LWp.skip ?_ | refine LOps.val (LVal.call rfl rfl (by rw [hP]; exact Try.func20) rfl (by decide) (lenN_F hP)) rfl rfl rfl ?_ | refine LOps.val (LVal.call rfl rfl (by rw [hP]; exact Try.func21) rfl (by decide) (kindN_F hP)) rfl rfl rfl ?_ | refine LOps.val (LVal.call rfl rfl (by rw [hP]; exact Try.func8) rfl (by decide) (wakes_F hP)) rfl rfl rfl ?_ | refine LOps.whenC (LVal.call rfl rfl (by rw [hP]; exact Try.func20) rfl (by decide) (lenN_F hP)) ?_ | refine LOps.whenC (LVal.call rfl rfl (by rw [hP]; exact Try.func21) rfl (by decide) (kindN_F hP)) ?_ | refine LOps.whenC (LVal.call rfl rfl (by rw [hP]; exact Try.func8) rfl (by decide) (wakes_F hP)) ?_ | refine LOps.valA ?_ | refine LOps.outA ?_ | refine LOps.whenA ?_ | refine LOps.pickA ?_ | refine LOps.storeA ?_)
    exact ⟨_, LRes.one rfl, isTrueA _ (by decide +kernel)⟩
  · rintro c k S' _ h
    exact h.elim
end Go.Proofs.Ytinbibeapooghaa.LF

namespace Go.Proofs.Ytinbibeapooghaa
open Go.RowKit LF
theorem artnodeNobody_walk (W : World) (v0 : Value) (l0 : List LV) (y0 : Typed LF.D 5 l0) (g0 : RepT (G0 Try.prog W) W (allCells W) (argTV ti5 l0) v0) (v1 : Value) (l1 : List LV) (y1 : Typed LF.D 3 l1) (g1 : RepT (G0 Try.prog W) W (allCells W) (argTV ti3 l1) v1) :
    Calls Try.prog 4 #[v0, v1] W fun e W' => e = .returned (.bool true) ∧ Below W.heap.size W W' := by
  obtain ⟨c, rfl, _⟩ := typed_int rfl rfl y0
  obtain ⟨x, rfl, _⟩ := typed_int rfl rfl y1
  exact law_calls (fun G S h => nobody_L h c x S) (.cons (vs := [v1]) g0 (.cons (vs := []) g1 .nil))
end Go.Proofs.Ytinbibeapooghaa
