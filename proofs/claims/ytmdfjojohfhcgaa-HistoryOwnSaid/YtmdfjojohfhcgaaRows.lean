/-
  No cell of these rows narrows 'for every input' (looked for: loops, veiled, ifaces, maps, wideKeys, modest, calm, conditions, laid).
  DERIVED. THE GIVEN ROWS OF THIS SEAT. 5 by the template 'for every input the law returns true; each argument reads behind the call as it read before'; 0 by the template 'total and deterministic' (their statements: YtmdfjojohfhcgaaTotals.lean).
  GIVEN WITH THE SEED: the statements are not yours to turn. If you find one false, say at which input.
  Laid BY PROGRAM, IN A SANDBOX (cutbox-rows.mjs): the forced cells as the released guide's own fill.sh prints them over the translation b16b1c3a8c3f3aad… (all of the seat's roots in one cut). By AI agents, Wed Nov 11 2026. No macro, syntax, notation, axiom, sorry.
-/
import Derived.Test.YtmdfjojohfhcgaaChecked
import GoSem.Claim
import GoSem.ClaimJoined
import GoSem.ClaimMapViews
import Derived.JoinedTies
import Derived.KernelRfl
namespace Go.Proofs.Ytmdfjojohfhcgaa
/- THE CELL 'sum', in the pinned program and in every row, IS THE sha256 OF THE DUMP (.gsa) THAT YtmdfjojohfhcgaaProg.lean LOADS. Nothing in Lean hashes anything: it is a label: what it is worth is what the hold of that sum in a sandbox is worth. -/
noncomputable def Try.pinned : Pinned := { name := "ytmdfjojohfhcgaa", sum := "b16b1c3a8c3f3aad9fefa7d3cf3f517c2af656561397debf46333cd5e95f3311", checked := Try.checked }
namespace Rows
def none {H : Type} : Left H := { results := [], args := [] }

/-- 'marshallinglaw06.HistoryPlays': WHATEVER THE INPUT: true; the input reads as it did. -/
def historyPlaysSpec : ChangeSpec := { name := "historyPlays", fn := fun _ => fun
  | [d] => { results := [.lit (.bool true)], args := [d] }
  | _ => none }
def historyPlaysRow : OpenClaim := { program := "ytmdfjojohfhcgaa", sum := "b16b1c3a8c3f3aad9fefa7d3cf3f517c2af656561397debf46333cd5e95f3311", func := "marshalling/marshallinglaw06.HistoryPlays", spec := "historyPlays", apart := false }
def HistoryPlaysSaid : Prop := historyPlaysRow.holds Try.pinned (OpenSpec.ofChange historyPlaysSpec)

/-- ITS FALSE NEIGHBOUR: 'it returns false'. Refute it at one input. -/
def historyPlaysWrong : ChangeSpec := { name := "historyPlays", fn := fun _ => fun
  | [d] => { results := [.lit (.bool false)], args := [d] }
  | _ => none }
def HistoryPlaysWrongFalsely : Prop := historyPlaysRow.holds Try.pinned (OpenSpec.ofChange historyPlaysWrong)

/-- 'marshallinglaw06.HistoryOwn': WHATEVER THE INPUT: true; the input reads as it did. -/
def historyOwnSpec : ChangeSpec := { name := "historyOwn", fn := fun _ => fun
  | [d] => { results := [.lit (.bool true)], args := [d] }
  | _ => none }
def historyOwnRow : OpenClaim := { program := "ytmdfjojohfhcgaa", sum := "b16b1c3a8c3f3aad9fefa7d3cf3f517c2af656561397debf46333cd5e95f3311", func := "marshalling/marshallinglaw06.HistoryOwn", spec := "historyOwn", apart := false }
def HistoryOwnSaid : Prop := historyOwnRow.holds Try.pinned (OpenSpec.ofChange historyOwnSpec)

/-- ITS FALSE NEIGHBOUR: 'it returns false'. Refute it at one input. -/
def historyOwnWrong : ChangeSpec := { name := "historyOwn", fn := fun _ => fun
  | [d] => { results := [.lit (.bool false)], args := [d] }
  | _ => none }
def HistoryOwnWrongFalsely : Prop := historyOwnRow.holds Try.pinned (OpenSpec.ofChange historyOwnWrong)

/-- 'marshallinglaw06.HistoryOrder': WHATEVER THE INPUT: true; the input reads as it did. -/
def historyOrderSpec : ChangeSpec := { name := "historyOrder", fn := fun _ => fun
  | [d] => { results := [.lit (.bool true)], args := [d] }
  | _ => none }
def historyOrderRow : OpenClaim := { program := "ytmdfjojohfhcgaa", sum := "b16b1c3a8c3f3aad9fefa7d3cf3f517c2af656561397debf46333cd5e95f3311", func := "marshalling/marshallinglaw06.HistoryOrder", spec := "historyOrder", unfollowed := true, recurses := true, apart := false }
def HistoryOrderSaid : Prop := historyOrderRow.holds Try.pinned (OpenSpec.ofChange historyOrderSpec)

/-- ITS FALSE NEIGHBOUR: 'it returns false'. Refute it at one input. -/
def historyOrderWrong : ChangeSpec := { name := "historyOrder", fn := fun _ => fun
  | [d] => { results := [.lit (.bool false)], args := [d] }
  | _ => none }
def HistoryOrderWrongFalsely : Prop := historyOrderRow.holds Try.pinned (OpenSpec.ofChange historyOrderWrong)

/-- 'marshallinglaw06.HistoryChecks': WHATEVER THE INPUT: true; the input reads as it did. -/
def historyChecksSpec : ChangeSpec := { name := "historyChecks", fn := fun _ => fun
  | [d1, d2, d3] => { results := [.lit (.bool true)], args := [d1, d2, d3] }
  | _ => none }
def historyChecksRow : OpenClaim := { program := "ytmdfjojohfhcgaa", sum := "b16b1c3a8c3f3aad9fefa7d3cf3f517c2af656561397debf46333cd5e95f3311", func := "marshalling/marshallinglaw06.HistoryChecks", spec := "historyChecks", unfollowed := true, recurses := true, apart := false }
def HistoryChecksSaid : Prop := historyChecksRow.holds Try.pinned (OpenSpec.ofChange historyChecksSpec)

/-- ITS FALSE NEIGHBOUR: 'it returns false'. Refute it at one input. -/
def historyChecksWrong : ChangeSpec := { name := "historyChecks", fn := fun _ => fun
  | [d1, d2, d3] => { results := [.lit (.bool false)], args := [d1, d2, d3] }
  | _ => none }
def HistoryChecksWrongFalsely : Prop := historyChecksRow.holds Try.pinned (OpenSpec.ofChange historyChecksWrong)

/-- 'marshallinglaw06.HistoryKnown': WHATEVER THE INPUT: true; the input reads as it did. -/
def historyKnownSpec : ChangeSpec := { name := "historyKnown", fn := fun _ => fun
  | [] => { results := [.lit (.bool true)], args := [] }
  | _ => none }
def historyKnownRow : OpenClaim := { program := "ytmdfjojohfhcgaa", sum := "b16b1c3a8c3f3aad9fefa7d3cf3f517c2af656561397debf46333cd5e95f3311", func := "marshalling/marshallinglaw06.HistoryKnown", spec := "historyKnown", unfollowed := true, recurses := true, apart := false }
def HistoryKnownSaid : Prop := historyKnownRow.holds Try.pinned (OpenSpec.ofChange historyKnownSpec)

/-- ITS FALSE NEIGHBOUR: 'it returns false'. Refute it at one input. -/
def historyKnownWrong : ChangeSpec := { name := "historyKnown", fn := fun _ => fun
  | [] => { results := [.lit (.bool false)], args := [] }
  | _ => none }
def HistoryKnownWrongFalsely : Prop := historyKnownRow.holds Try.pinned (OpenSpec.ofChange historyKnownWrong)

/- THE SECOND FORM. 'bulk': how many values and letters a reading holds, each counted each time it is reached (what is shared counts as often as it is met; a slice's spare places count too). A statement '..UptoSaid' is the law's where the arguments, and the package variables that the reading takes, are together of bulk at most 1048576: NARROWER than '..Said'. Prove '..Said' where nothing that the law and all that it calls make is longer than what came in: it says more and counts as full. Else prove '..UptoSaid'. A law counts once. -/
mutual
def uptoBulk {H : Type} : DataW H → Nat
  | .lit (.string bytes) => bytes.length + 1
  | .lit _ => 1
  | .nil => 1
  | .ptr d => uptoBulk d + 1
  | .slice elems spare => uptoBulkAll elems + uptoBulkAll spare + 1
  | .agg parts => uptoBulkAll parts + 1
  | .iface _ d => uptoBulk d + 1
  | .map entries => uptoBulkEntries entries + 1
  | .held _ => 1
def uptoBulkAll {H : Type} : List (DataW H) → Nat
  | [] => 0
  | d :: r => uptoBulk d + uptoBulkAll r
def uptoBulkEntries {H : Type} : List (Lit × DataW H) → Nat
  | [] => 0
  | x :: r => uptoBulkEntry x + uptoBulkEntries r
def uptoBulkEntry {H : Type} : Lit × DataW H → Nat
  | (.string bytes, d) => bytes.length + uptoBulk d + 1
  | (_, d) => uptoBulk d + 1
 end
def uptoSmall : (H : Type) → List (DataW H) → Bool := fun _ ds => decide (uptoBulkAll ds ≤ 1048576)
def OpenSpec.upto (s : _root_.Go.ChangeSpec) : _root_.Go.OpenSpec := { _root_.Go.OpenSpec.ofChange s with cond := some uptoSmall }

/-- 'marshallinglaw06.HistoryPlays', WHERE WHAT IT READS IS OF BULK AT MOST 1048576: true; the input reads as it did. -/
def historyPlaysUptoRow : OpenClaim := { program := "ytmdfjojohfhcgaa", sum := "b16b1c3a8c3f3aad9fefa7d3cf3f517c2af656561397debf46333cd5e95f3311", func := "marshalling/marshallinglaw06.HistoryPlays", spec := "historyPlays", apart := false, narrowed := true }
def HistoryPlaysUptoSaid : Prop := historyPlaysUptoRow.holds Try.pinned (OpenSpec.upto historyPlaysSpec)

/-- 'marshallinglaw06.HistoryOwn', WHERE WHAT IT READS IS OF BULK AT MOST 1048576: true; the input reads as it did. -/
def historyOwnUptoRow : OpenClaim := { program := "ytmdfjojohfhcgaa", sum := "b16b1c3a8c3f3aad9fefa7d3cf3f517c2af656561397debf46333cd5e95f3311", func := "marshalling/marshallinglaw06.HistoryOwn", spec := "historyOwn", apart := false, narrowed := true }
def HistoryOwnUptoSaid : Prop := historyOwnUptoRow.holds Try.pinned (OpenSpec.upto historyOwnSpec)

/-- 'marshallinglaw06.HistoryOrder', WHERE WHAT IT READS IS OF BULK AT MOST 1048576: true; the input reads as it did. -/
def historyOrderUptoRow : OpenClaim := { program := "ytmdfjojohfhcgaa", sum := "b16b1c3a8c3f3aad9fefa7d3cf3f517c2af656561397debf46333cd5e95f3311", func := "marshalling/marshallinglaw06.HistoryOrder", spec := "historyOrder", unfollowed := true, recurses := true, apart := false, narrowed := true }
def HistoryOrderUptoSaid : Prop := historyOrderUptoRow.holds Try.pinned (OpenSpec.upto historyOrderSpec)

/-- 'marshallinglaw06.HistoryChecks', WHERE WHAT IT READS IS OF BULK AT MOST 1048576: true; the input reads as it did. -/
def historyChecksUptoRow : OpenClaim := { program := "ytmdfjojohfhcgaa", sum := "b16b1c3a8c3f3aad9fefa7d3cf3f517c2af656561397debf46333cd5e95f3311", func := "marshalling/marshallinglaw06.HistoryChecks", spec := "historyChecks", unfollowed := true, recurses := true, apart := false, narrowed := true }
def HistoryChecksUptoSaid : Prop := historyChecksUptoRow.holds Try.pinned (OpenSpec.upto historyChecksSpec)

/-- 'marshallinglaw06.HistoryKnown', WHERE WHAT IT READS IS OF BULK AT MOST 1048576: true; the input reads as it did. -/
def historyKnownUptoRow : OpenClaim := { program := "ytmdfjojohfhcgaa", sum := "b16b1c3a8c3f3aad9fefa7d3cf3f517c2af656561397debf46333cd5e95f3311", func := "marshalling/marshallinglaw06.HistoryKnown", spec := "historyKnown", unfollowed := true, recurses := true, apart := false, narrowed := true }
def HistoryKnownUptoSaid : Prop := historyKnownUptoRow.holds Try.pinned (OpenSpec.upto historyKnownSpec)

end Rows
end Go.Proofs.Ytmdfjojohfhcgaa
