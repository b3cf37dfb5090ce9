/- The law 'HistoryPlays' as a walk of the model. -/
import Derived.Test.YtmdfjojohfhcgaaLHg
import Derived.Test.YtmdfjojohfhcgaaLHh
set_option linter.unusedVariables false
set_option linter.unusedSimpArgs false
namespace Go.Proofs.Ytmdfjojohfhcgaa
open Go.RowKit LF

theorem historyPlays_walk (W : World) (v0 : Value) (l0 : List LV) (y0 : Typed LF.D 22 l0) (g0 : RepT (G0 Try.prog W) W (allCells W) (argTV ti22 l0) v0) :
    Calls Try.prog 3 #[v0] W fun e W' => e = .returned (.bool true) ∧ Below W.heap.size W W' := by
  obtain ⟨l, rfl⟩ := typed_evs y0
  exact law_calls (fun G S h => plays_L h l S) (.cons (vs := []) g0 .nil)
end Go.Proofs.Ytmdfjojohfhcgaa
