/-
  No cell of these rows narrows 'for every input' (looked for: loops, veiled, ifaces, maps, wideKeys, modest, calm, conditions, laid).
  DERIVED. THE GIVEN ROWS OF THIS SEAT. 6 by the template 'for every input the law returns true; each argument reads behind the call as it read before'; 0 by the template 'total and deterministic' (their statements: YtandbjhedkgldaaTotals.lean).
  GIVEN WITH THE SEED: the statements are not yours to turn. If you find one false, say at which input.
  Laid BY PROGRAM, IN A SANDBOX (cutbox-rows.mjs): the forced cells as the released guide's own fill.sh prints them over the translation 1ff0504e91bbe67c… (all of the seat's roots in one cut). By AI agents, Wed Nov 11 2026. No macro, syntax, notation, axiom, sorry.
-/
import Derived.Test.YtandbjhedkgldaaChecked
import GoSem.Claim
import GoSem.ClaimJoined
import GoSem.ClaimMapViews
import Derived.JoinedTies
import Derived.KernelRfl
namespace Go.Proofs.Ytandbjhedkgldaa
/- THE CELL 'sum', in the pinned program and in every row, IS THE sha256 OF THE DUMP (.gsa) THAT YtandbjhedkgldaaProg.lean LOADS. Nothing in Lean hashes anything: it is a label: what it is worth is what the hold of that sum in a sandbox is worth. -/
noncomputable def Try.pinned : Pinned := { name := "ytandbjhedkgldaa", sum := "1ff0504e91bbe67c2f3bb2aeb0d2b5e082bb0d754e33fcef9b778829052e7664", checked := Try.checked }
namespace Rows
def none {H : Type} : Left H := { results := [], args := [] }

/-- 'marshallinglaw08.LinearChecks': WHATEVER THE INPUT: true; the input reads as it did. -/
def linearChecksSpec : ChangeSpec := { name := "linearChecks", fn := fun _ => fun
  | [d1, d2] => { results := [.lit (.bool true)], args := [d1, d2] }
  | _ => none }
def linearChecksRow : OpenClaim := { program := "ytandbjhedkgldaa", sum := "1ff0504e91bbe67c2f3bb2aeb0d2b5e082bb0d754e33fcef9b778829052e7664", func := "marshalling/marshallinglaw08.LinearChecks", spec := "linearChecks", inPlace := ["slices.overlaps[marshalling/api.Pair]"], unfollowed := true, recurses := true, apart := false }
def LinearChecksSaid : Prop := linearChecksRow.holds Try.pinned (OpenSpec.ofChange linearChecksSpec)

/-- ITS FALSE NEIGHBOUR: 'it returns false'. Refute it at one input. -/
def linearChecksWrong : ChangeSpec := { name := "linearChecks", fn := fun _ => fun
  | [d1, d2] => { results := [.lit (.bool false)], args := [d1, d2] }
  | _ => none }
def LinearChecksWrongFalsely : Prop := linearChecksRow.holds Try.pinned (OpenSpec.ofChange linearChecksWrong)

/-- 'marshallinglaw08.LinearSome': WHATEVER THE INPUT: true; the input reads as it did. -/
def linearSomeSpec : ChangeSpec := { name := "linearSome", fn := fun _ => fun
  | [d1, d2] => { results := [.lit (.bool true)], args := [d1, d2] }
  | _ => none }
def linearSomeRow : OpenClaim := { program := "ytandbjhedkgldaa", sum := "1ff0504e91bbe67c2f3bb2aeb0d2b5e082bb0d754e33fcef9b778829052e7664", func := "marshalling/marshallinglaw08.LinearSome", spec := "linearSome", inPlace := ["slices.overlaps[marshalling/api.Pair]"], unfollowed := true, recurses := true, apart := false }
def LinearSomeSaid : Prop := linearSomeRow.holds Try.pinned (OpenSpec.ofChange linearSomeSpec)

/-- ITS FALSE NEIGHBOUR: 'it returns false'. Refute it at one input. -/
def linearSomeWrong : ChangeSpec := { name := "linearSome", fn := fun _ => fun
  | [d1, d2] => { results := [.lit (.bool false)], args := [d1, d2] }
  | _ => none }
def LinearSomeWrongFalsely : Prop := linearSomeRow.holds Try.pinned (OpenSpec.ofChange linearSomeWrong)

/-- 'marshallinglaw08.LinearSure': WHATEVER THE INPUT: true; the input reads as it did. -/
def linearSureSpec : ChangeSpec := { name := "linearSure", fn := fun _ => fun
  | [d1, d2] => { results := [.lit (.bool true)], args := [d1, d2] }
  | _ => none }
def linearSureRow : OpenClaim := { program := "ytandbjhedkgldaa", sum := "1ff0504e91bbe67c2f3bb2aeb0d2b5e082bb0d754e33fcef9b778829052e7664", func := "marshalling/marshallinglaw08.LinearSure", spec := "linearSure", inPlace := ["slices.overlaps[marshalling/api.Pair]"], unfollowed := true, recurses := true, apart := false }
def LinearSureSaid : Prop := linearSureRow.holds Try.pinned (OpenSpec.ofChange linearSureSpec)

/-- ITS FALSE NEIGHBOUR: 'it returns false'. Refute it at one input. -/
def linearSureWrong : ChangeSpec := { name := "linearSure", fn := fun _ => fun
  | [d1, d2] => { results := [.lit (.bool false)], args := [d1, d2] }
  | _ => none }
def LinearSureWrongFalsely : Prop := linearSureRow.holds Try.pinned (OpenSpec.ofChange linearSureWrong)

/-- 'marshallinglaw08.LinearMoves': WHATEVER THE INPUT: true; the input reads as it did. -/
def linearMovesSpec : ChangeSpec := { name := "linearMoves", fn := fun _ => fun
  | [d1, d2, d3] => { results := [.lit (.bool true)], args := [d1, d2, d3] }
  | _ => none }
def linearMovesRow : OpenClaim := { program := "ytandbjhedkgldaa", sum := "1ff0504e91bbe67c2f3bb2aeb0d2b5e082bb0d754e33fcef9b778829052e7664", func := "marshalling/marshallinglaw08.LinearMoves", spec := "linearMoves", inPlace := ["slices.overlaps[marshalling/api.Pair]"], unfollowed := true, recurses := true, apart := false }
def LinearMovesSaid : Prop := linearMovesRow.holds Try.pinned (OpenSpec.ofChange linearMovesSpec)

/-- ITS FALSE NEIGHBOUR: 'it returns false'. Refute it at one input. -/
def linearMovesWrong : ChangeSpec := { name := "linearMoves", fn := fun _ => fun
  | [d1, d2, d3] => { results := [.lit (.bool false)], args := [d1, d2, d3] }
  | _ => none }
def LinearMovesWrongFalsely : Prop := linearMovesRow.holds Try.pinned (OpenSpec.ofChange linearMovesWrong)

/-- 'marshallinglaw08.LinearKnown': WHATEVER THE INPUT: true; the input reads as it did. -/
def linearKnownSpec : ChangeSpec := { name := "linearKnown", fn := fun _ => fun
  | [] => { results := [.lit (.bool true)], args := [] }
  | _ => none }
def linearKnownRow : OpenClaim := { program := "ytandbjhedkgldaa", sum := "1ff0504e91bbe67c2f3bb2aeb0d2b5e082bb0d754e33fcef9b778829052e7664", func := "marshalling/marshallinglaw08.LinearKnown", spec := "linearKnown", inPlace := ["slices.overlaps[marshalling/api.Pair]"], unfollowed := true, recurses := true, apart := false }
def LinearKnownSaid : Prop := linearKnownRow.holds Try.pinned (OpenSpec.ofChange linearKnownSpec)

/-- ITS FALSE NEIGHBOUR: 'it returns false'. Refute it at one input. -/
def linearKnownWrong : ChangeSpec := { name := "linearKnown", fn := fun _ => fun
  | [] => { results := [.lit (.bool false)], args := [] }
  | _ => none }
def LinearKnownWrongFalsely : Prop := linearKnownRow.holds Try.pinned (OpenSpec.ofChange linearKnownWrong)

/-- 'marshallinglaw08.LinearIdle': WHATEVER THE INPUT: true; the input reads as it did. -/
def linearIdleSpec : ChangeSpec := { name := "linearIdle", fn := fun _ => fun
  | [d1, d2] => { results := [.lit (.bool true)], args := [d1, d2] }
  | _ => none }
def linearIdleRow : OpenClaim := { program := "ytandbjhedkgldaa", sum := "1ff0504e91bbe67c2f3bb2aeb0d2b5e082bb0d754e33fcef9b778829052e7664", func := "marshalling/marshallinglaw08.LinearIdle", spec := "linearIdle", inPlace := ["slices.overlaps[marshalling/api.Pair]"], unfollowed := true, recurses := true, apart := false }
def LinearIdleSaid : Prop := linearIdleRow.holds Try.pinned (OpenSpec.ofChange linearIdleSpec)

/-- ITS FALSE NEIGHBOUR: 'it returns false'. Refute it at one input. -/
def linearIdleWrong : ChangeSpec := { name := "linearIdle", fn := fun _ => fun
  | [d1, d2] => { results := [.lit (.bool false)], args := [d1, d2] }
  | _ => none }
def LinearIdleWrongFalsely : Prop := linearIdleRow.holds Try.pinned (OpenSpec.ofChange linearIdleWrong)

/- THE SECOND FORM. 'bulk': how many values and letters a reading holds, each counted each time it is reached (what is shared counts as often as it is met; a slice's spare places count too). A statement '..UptoSaid' is the law's where the arguments, and the package variables that the reading takes, are together of bulk at most 1048576: NARROWER than '..Said'. Prove '..Said' where nothing that the law and all that it calls make is longer than what came in: it says more and counts as full. Else prove '..UptoSaid'. A law counts once. -/
mutual
def uptoBulk {H : Type} : DataW H → Nat
  | .lit (.string bytes) => bytes.length + 1
  | .lit _ => 1
  | .nil => 1
  | .ptr d => uptoBulk d + 1
  | .slice elems spare => uptoBulkAll elems + uptoBulkAll spare + 1
  | .agg parts => uptoBulkAll parts + 1
  | .iface _ d => uptoBulk d + 1
  | .map entries => uptoBulkEntries entries + 1
  | .held _ => 1
def uptoBulkAll {H : Type} : List (DataW H) → Nat
  | [] => 0
  | d :: r => uptoBulk d + uptoBulkAll r
def uptoBulkEntries {H : Type} : List (Lit × DataW H) → Nat
  | [] => 0
  | x :: r => uptoBulkEntry x + uptoBulkEntries r
def uptoBulkEntry {H : Type} : Lit × DataW H → Nat
  | (.string bytes, d) => bytes.length + uptoBulk d + 1
  | (_, d) => uptoBulk d + 1
 end
def uptoSmall : (H : Type) → List (DataW H) → Bool := fun _ ds => decide (uptoBulkAll ds ≤ 1048576)
def OpenSpec.upto (s : _root_.Go.ChangeSpec) : _root_.Go.OpenSpec := { _root_.Go.OpenSpec.ofChange s with cond := some uptoSmall }

/-- 'marshallinglaw08.LinearChecks', WHERE WHAT IT READS IS OF BULK AT MOST 1048576: true; the input reads as it did. -/
def linearChecksUptoRow : OpenClaim := { program := "ytandbjhedkgldaa", sum := "1ff0504e91bbe67c2f3bb2aeb0d2b5e082bb0d754e33fcef9b778829052e7664", func := "marshalling/marshallinglaw08.LinearChecks", spec := "linearChecks", inPlace := ["slices.overlaps[marshalling/api.Pair]"], unfollowed := true, recurses := true, apart := false, narrowed := true }
def LinearChecksUptoSaid : Prop := linearChecksUptoRow.holds Try.pinned (OpenSpec.upto linearChecksSpec)

/-- 'marshallinglaw08.LinearSome', WHERE WHAT IT READS IS OF BULK AT MOST 1048576: true; the input reads as it did. -/
def linearSomeUptoRow : OpenClaim := { program := "ytandbjhedkgldaa", sum := "1ff0504e91bbe67c2f3bb2aeb0d2b5e082bb0d754e33fcef9b778829052e7664", func := "marshalling/marshallinglaw08.LinearSome", spec := "linearSome", inPlace := ["slices.overlaps[marshalling/api.Pair]"], unfollowed := true, recurses := true, apart := false, narrowed := true }
def LinearSomeUptoSaid : Prop := linearSomeUptoRow.holds Try.pinned (OpenSpec.upto linearSomeSpec)

/-- 'marshallinglaw08.LinearSure', WHERE WHAT IT READS IS OF BULK AT MOST 1048576: true; the input reads as it did. -/
def linearSureUptoRow : OpenClaim := { program := "ytandbjhedkgldaa", sum := "1ff0504e91bbe67c2f3bb2aeb0d2b5e082bb0d754e33fcef9b778829052e7664", func := "marshalling/marshallinglaw08.LinearSure", spec := "linearSure", inPlace := ["slices.overlaps[marshalling/api.Pair]"], unfollowed := true, recurses := true, apart := false, narrowed := true }
def LinearSureUptoSaid : Prop := linearSureUptoRow.holds Try.pinned (OpenSpec.upto linearSureSpec)

/-- 'marshallinglaw08.LinearMoves', WHERE WHAT IT READS IS OF BULK AT MOST 1048576: true; the input reads as it did. -/
def linearMovesUptoRow : OpenClaim := { program := "ytandbjhedkgldaa", sum := "1ff0504e91bbe67c2f3bb2aeb0d2b5e082bb0d754e33fcef9b778829052e7664", func := "marshalling/marshallinglaw08.LinearMoves", spec := "linearMoves", inPlace := ["slices.overlaps[marshalling/api.Pair]"], unfollowed := true, recurses := true, apart := false, narrowed := true }
def LinearMovesUptoSaid : Prop := linearMovesUptoRow.holds Try.pinned (OpenSpec.upto linearMovesSpec)

/-- 'marshallinglaw08.LinearKnown', WHERE WHAT IT READS IS OF BULK AT MOST 1048576: true; the input reads as it did. -/
def linearKnownUptoRow : OpenClaim := { program := "ytandbjhedkgldaa", sum := "1ff0504e91bbe67c2f3bb2aeb0d2b5e082bb0d754e33fcef9b778829052e7664", func := "marshalling/marshallinglaw08.LinearKnown", spec := "linearKnown", inPlace := ["slices.overlaps[marshalling/api.Pair]"], unfollowed := true, recurses := true, apart := false, narrowed := true }
def LinearKnownUptoSaid : Prop := linearKnownUptoRow.holds Try.pinned (OpenSpec.upto linearKnownSpec)

/-- 'marshallinglaw08.LinearIdle', WHERE WHAT IT READS IS OF BULK AT MOST 1048576: true; the input reads as it did. -/
def linearIdleUptoRow : OpenClaim := { program := "ytandbjhedkgldaa", sum := "1ff0504e91bbe67c2f3bb2aeb0d2b5e082bb0d754e33fcef9b778829052e7664", func := "marshalling/marshallinglaw08.LinearIdle", spec := "linearIdle", inPlace := ["slices.overlaps[marshalling/api.Pair]"], unfollowed := true, recurses := true, apart := false, narrowed := true }
def LinearIdleUptoSaid : Prop := linearIdleUptoRow.holds Try.pinned (OpenSpec.upto linearIdleSpec)

end Rows
end Go.Proofs.Ytandbjhedkgldaa
