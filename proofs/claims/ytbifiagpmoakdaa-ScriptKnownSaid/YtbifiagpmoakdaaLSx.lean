/- The walk of the law 'ScriptKnown'. -/
import Derived.Test.YtbifiagpmoakdaaLSt
set_option linter.unusedVariables false
set_option linter.unusedSimpArgs false
namespace Go.Proofs.Ytbifiagpmoakdaa.LF
open Go.RowKit
set_option linter.unusedVariables false

def kn1 : En := ⟨3, 3, 2, noOp⟩
def kn2 : En := ⟨2, 65536, 0, noOp⟩
def kn3 : En := ⟨1, 0, 0, { noOp with kind := 1, key := { data := #[97] }, val := { data := #[120] } }⟩
theorem knB (x : En) (h1 : 0 ≤ x.kind ∧ x.kind < 256) (h2 : 0 ≤ x.op.kind ∧ x.op.kind < 256) (h3 : x.op.key.size ≤ 1) (h4 : x.op.val.size ≤ 1) (h5 : x.op.old.size ≤ 1) (h6 : x.op.writes = []) : ∀ y ∈ [x], EnB y := fun y hy => by
  obtain rfl : y = x := by simpa using hy
  exact ⟨h1, h2, by omega, by omega, by omega, by rw [h6]; simp, fun w hw => by rw [h6] at hw; cases hw⟩

set_option maxHeartbeats 8000000 in
theorem known_F {G : Ctx} (hP : G.P = Try.prog) : LFun G 4 [] (.one (bv true)) := LFun.of fun S => by
  have hD : TabOK G.P D := by rw [hP]; exact hD0
  have d1 := decode_F hP [7, 2, 5] (by decide)
  rw [show decodeS [7, 2, 5] = [] by decide +kernel] at d1
  have d2 := decode_F hP [8, 255] (by decide)
  rw [show decodeS [8, 255] = [] by decide +kernel] at d2
  have d3 := decode_F hP [7, 4, 9] (by decide)
  rw [show decodeS [7, 4, 9] = [⟨4, 9, 0, noOp⟩] by decide +kernel] at d3
  have d4 := decode_F hP [] (by decide)
  rw [show decodeS [] = [] by decide +kernel] at d4
  have e1 := encode_F hP [kn1] (by decide) (knB kn1 (by decide) (by decide) (by decide) (by decide) (by decide) rfl)
  rw [show encS [kn1] = ([3, 3, 2], 0) by decide +kernel] at e1
  have e2 := encode_F hP [kn2] (by decide) (knB kn2 (by decide) (by decide) (by decide) (by decide) (by decide) rfl)
  rw [show encS [kn2] = ([], 1) by decide +kernel] at e2
  have e3 := encode_F hP [kn3] (by decide) (knB kn3 (by decide) (by decide) (by decide) (by decide) (by decide) rfl)
  rw [show encS [kn3] = ([], 1) by decide +kernel] at e3
  refine LCalls.enter (fn := Try.f4) (by rw [hP]; exact Try.func4) rfl rfl ?_
  repeat (first | refine LOps.val (r := .one (.sl .sh (bL [7, 2, 5]))) (LVal.to (LVal.buildSlice hD rfl rfl rfl rfl rfl rfl rfl rfl rfl rfl) rfl) rfl rfl rfl ?_ | refine LOps.val (r := .one (.sl .sh (bL [8, 255]))) (LVal.to (LVal.buildSlice hD rfl rfl rfl rfl rfl rfl rfl rfl rfl rfl) rfl) rfl rfl rfl ?_ | refine LOps.val (r := .one (.sl .sh (bL [7, 4, 9]))) (LVal.to (LVal.buildSlice hD rfl rfl rfl rfl rfl rfl rfl rfl rfl rfl) rfl) rfl rfl rfl ?_ | refine LOps.val (LVal.shTo (LVal.build hD rfl rfl rfl rfl rfl rfl rfl) rfl) rfl rfl rfl ?_ | refine LOps.whenC (LVal.bytesStr (bs := [3, 3, 2]) hD rfl rfl rfl rfl rfl rfl rfl rfl) ?_ | refine LOps.nil ?_ | refine andThen_normal ?_ | refine andThen_exit ?_ | refine andThen_ret ?_ | refine inBlock_normal ?_ | refine inBlock_ret ?_ | refine inBlock_here ?_ | refine inBlock_out rfl ?_ | refine LWp.seq ?_ | refine LWp.region ?_ | refine LWp.block ?_ | refine LWp.exit ?_ | refine LWp.ret ?_ | refine LWp.skip ?_ | refine LOps.val (LVal.call rfl rfl (by rw [hP]; exact Try.func11) rfl (by decide) (d1)) rfl rfl rfl ?_ | refine LOps.val (LVal.call rfl rfl (by rw [hP]; exact Try.func11) rfl (by decide) (d2)) rfl rfl rfl ?_ | refine LOps.val (LVal.call rfl rfl (by rw [hP]; exact Try.func11) rfl (by decide) (d3)) rfl rfl rfl ?_ | refine LOps.val (LVal.call rfl rfl (by rw [hP]; exact Try.func14) rfl (by decide) (e1)) rfl rfl rfl ?_ | refine LOps.val (LVal.call rfl rfl (by rw [hP]; exact Try.func14) rfl (by decide) (e2)) rfl rfl rfl ?_ | refine LOps.val (LVal.call rfl rfl (by rw [hP]; exact Try.func14) rfl (by decide) (e3)) rfl rfl rfl ?_ | refine LOps.val (LVal.call rfl rfl (by rw [hP]; exact Try.func10) rfl (by decide) (awake_F hP)) rfl rfl rfl ?_ | refine LOps.val (LVal.call rfl rfl (by rw [hP]; exact Try.func11) rfl (by decide) (d4)) rfl rfl rfl ?_ | refine LOps.whenC (LVal.call rfl rfl (by rw [hP]; exact Try.func11) rfl (by decide) (d1)) ?_ | refine LOps.whenC (LVal.call rfl rfl (by rw [hP]; exact Try.func11) rfl (by decide) (d2)) ?_ | refine LOps.whenC (LVal.call rfl rfl (by rw [hP]; exact Try.func11) rfl (by decide) (d3)) ?_ | refine LOps.whenC (LVal.call rfl rfl (by rw [hP]; exact Try.func14) rfl (by decide) (e1)) ?_ | refine LOps.whenC (LVal.call rfl rfl (by rw [hP]; exact Try.func14) rfl (by decide) (e2)) ?_ | refine LOps.whenC (LVal.call rfl rfl (by rw [hP]; exact Try.func14) rfl (by decide) (e3)) ?_ | refine LOps.whenC (LVal.call rfl rfl (by rw [hP]; exact Try.func10) rfl (by decide) (awake_F hP)) ?_ | refine LOps.whenC (LVal.call rfl rfl (by rw [hP]; exact Try.func11) rfl (by decide) (d4)) ?_ | refine LOps.valA ?_ | refine LOps.outA ?_ | refine LOps.whenA ?_ | refine LOps.pickA ?_ | refine LOps.storeA ?_)
  exact ⟨_, LRes.one rfl, rfl, .refl _⟩
end Go.Proofs.Ytbifiagpmoakdaa.LF

namespace Go.Proofs.Ytbifiagpmoakdaa
open Go.RowKit LF
theorem scriptKnown_walk (W : World) : Calls Try.prog 4 #[] W fun e W' => e = .returned (.bool true) ∧ Below W.heap.size W W' :=
  law_calls (fun G S h K w vals h1 h2 => (known_F h S K w vals h1 h2).mono fun _ _ ⟨r, v, S', K', a, b, c, d, e⟩ => ⟨r, v, S', K', a, b, c, d, e.1⟩) .nil
end Go.Proofs.Ytbifiagpmoakdaa
