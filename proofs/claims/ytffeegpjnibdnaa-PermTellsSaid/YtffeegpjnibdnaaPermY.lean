/- The law 'PermTells' as a walk of the model: out of the walk over the frame. -/
import Derived.Test.YtffeegpjnibdnaaLPf
import Derived.Test.YtffeegpjnibdnaaLFk
import Derived.OpenShut
set_option linter.unusedVariables false
set_option linter.unusedSimpArgs false
namespace Go.Proofs.Ytffeegpjnibdnaa
open Go.RowKit LF

theorem permTells_walk (P i leave : Int) (wP : (Lit.int .u64 P).wf = true) (_wi : (Lit.int .i64 i).wf = true) (_wl : (Lit.int .i64 leave).wf = true) (w : World) :
    Calls Try.prog 7 #[.int .u64 P, .int .i64 i, .int .i64 leave] w fun e w' => e = .returned (.bool true) ∧ Below w.heap.size w w' := by
  have hP := bounds_u64 wP
  obtain ⟨p, rfl⟩ : ∃ p : Nat, P = p := ⟨P.toNat, by omega⟩
  exact law_calls (fun G S h => tells_L h p i leave (by omega) S) (ArgsRel.flat (vs := [.int .u64 p, .int .i64 i, .int .i64 leave]) rfl)
end Go.Proofs.Ytffeegpjnibdnaa
