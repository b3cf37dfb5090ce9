/- awake; the walk of the law 'ScriptReads'. -/
import Derived.Test.YtbifiagpmoakdaaLSk
set_option linter.unusedVariables false
set_option linter.unusedSimpArgs false
namespace Go.Proofs.Ytbifiagpmoakdaa.LF
open Go.RowKit

def awBytes : List UInt8 := [7, 1, 2, 1, 97, 1, 49, 2, 5, 1]
def awEs : List En := [⟨1, 0, 0, { noOp with kind := 2, key := { data := #[97] }, val := { data := #[49] } }⟩, ⟨2, 261, 0, noOp⟩]
theorem awDec : decodeS awBytes = awEs := by decide +kernel

set_option maxHeartbeats 4000000 in
theorem awake_F {G : Ctx} (hP : G.P = Try.prog) : LFun G 10 [] (.one (bv true)) := LFun.of fun S => by
  have hD : TabOK G.P D := by rw [hP]; exact hD0
  have hd := decode_F hP awBytes (by decide)
  rw [awDec] at hd
  have h1 := refSame_F hP awEs[0] awEs[0] (by decide)
  have h2 := refSame_F hP awEs[1] awEs[1] (by decide)
  rw [decide_eq_true rfl] at h1 h2
  have hl : (awEs.map enL).length = 2 := rfl
  refine LCalls.enter (fn := Try.f10) (by rw [hP]; exact Try.func10) rfl rfl ?_
  repeat (first | refine LOps.val (r := .one (.sl .sh (bL awBytes))) (LVal.to (LVal.buildSlice hD rfl rfl rfl rfl rfl rfl rfl rfl rfl rfl) rfl) rfl rfl rfl ?_ | refine LOps.whenC (LVal.shTo (LVal.build hD rfl rfl rfl rfl rfl rfl rfl) rfl) ?_ | refine LOps.nil ?_ | refine andThen_normal ?_ | refine andThen_exit ?_ | refine andThen_ret ?_ | refine inBlock_normal ?_ | refine inBlock_ret ?_ | refine inBlock_here ?_ | refine inBlock_out rfl ?_ | refine LWp.seq ?_ | refine LWp.region ?_ | refine LWp.block ?_ | refine LWp.exit ?_ | refine LWp.ret ?_ | refine LWp.skip ?_ | refine LOps.val (LVal.call rfl rfl (by rw [hP]; exact Try.func11) rfl (by decide) (hd)) rfl rfl rfl ?_ | refine LOps.val (LVal.call rfl rfl (by rw [hP]; exact Try.func17) rfl (by decide) (h1)) rfl rfl rfl ?_ | refine LOps.val (LVal.call rfl rfl (by rw [hP]; exact Try.func17) rfl (by decide) (h2)) rfl rfl rfl ?_ | refine LOps.whenC (LVal.call rfl rfl (by rw [hP]; exact Try.func11) rfl (by decide) (hd)) ?_ | refine LOps.whenC (LVal.call rfl rfl (by rw [hP]; exact Try.func17) rfl (by decide) (h1)) ?_ | refine LOps.whenC (LVal.call rfl rfl (by rw [hP]; exact Try.func17) rfl (by decide) (h2)) ?_ | refine LOps.valA ?_ | refine LOps.outA ?_ | refine LOps.whenA ?_ | refine LOps.pickA ?_ | refine LOps.storeA ?_)
  exact ⟨_, LRes.one rfl, rfl, .refl _⟩
end Go.Proofs.Ytbifiagpmoakdaa.LF
