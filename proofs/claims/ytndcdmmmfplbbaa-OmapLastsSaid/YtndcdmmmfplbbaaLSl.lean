/- Walks: only some slots count from here on. -/
import Derived.Test.YtndcdmmmfplbbaaLGc
set_option linter.unusedVariables false
set_option linter.unusedSimpArgs false
namespace Go.Proofs.Ytndcdmmmfplbbaa.LF
open Go.RowKit
/-- Only these slots count from here. -/
theorem LOps.slots {G : Ctx} {M : Option Nat} {n : Nat} {ops : Array Oper} {l : List Oper} {Q : (Nat → TV) → LS → Prop} {T : Nat → TV} {S : LS} (L : List (Nat × TV)) (h : holds T L) (k : ∀ T', LOps G M n ops l Q (over T' L) S) : LOps G M n ops l Q T S := by
  rw [h.over]; exact k T
theorem LWp.slots {G : Ctx} {M : Option Nat} {n : Nat} {c : Code} {Q : Exit → (Nat → TV) → LS → Prop} {T : Nat → TV} {S : LS} (L : List (Nat × TV)) (h : holds T L) (k : ∀ T', LWp G M n c Q (over T' L) S) : LWp G M n c Q T S := by
  rw [h.over]; exact k T
theorem any_take {α : Type} {p : α → Bool} {l : List α} {j : Nat} (h : j < l.length) : (l.take (j + 1)).any p = ((l.take j).any p || p l[j]) := by
  rw [List.take_succ_eq_append_getElem h, List.any_append]; simp
end Go.Proofs.Ytndcdmmmfplbbaa.LF
