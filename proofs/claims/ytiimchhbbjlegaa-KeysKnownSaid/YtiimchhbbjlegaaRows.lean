/-
  No cell of these rows narrows 'for every input' (looked for: loops, veiled, ifaces, maps, wideKeys, modest, calm, conditions, laid).
  DERIVED. THE GIVEN ROWS OF THIS SEAT. 8 by the template 'for every input the law returns true; each argument reads behind the call as it read before'; 0 by the template 'total and deterministic' (their statements: YtiimchhbbjlegaaTotals.lean).
  GIVEN WITH THE SEED: the statements are not yours to turn. If you find one false, say at which input.
  Laid BY PROGRAM, IN A SANDBOX (cutbox-rows.mjs): the forced cells as the released guide's own fill.sh prints them over the translation 674661aca456a53b… (all of the seat's roots in one cut). By AI agents, Wed Nov 11 2026. No macro, syntax, notation, axiom, sorry.
-/
import Derived.Test.YtiimchhbbjlegaaChecked
import GoSem.Claim
import GoSem.ClaimJoined
import GoSem.ClaimMapViews
import Derived.JoinedTies
import Derived.KernelRfl
namespace Go.Proofs.Ytiimchhbbjlegaa
/- THE CELL 'sum', in the pinned program and in every row, IS THE sha256 OF THE DUMP (.gsa) THAT YtiimchhbbjlegaaProg.lean LOADS. Nothing in Lean hashes anything: it is a label: what it is worth is what the hold of that sum in a sandbox is worth. -/
noncomputable def Try.pinned : Pinned := { name := "ytiimchhbbjlegaa", sum := "674661aca456a53bf8a1177cce098e3beb2910512675224255fb5710b1515106", checked := Try.checked }
namespace Rows
def none {H : Type} : Left H := { results := [], args := [] }

/-- 'marshallinglaw01.KeysCommon': WHATEVER THE INPUT: true; the input reads as it did. -/
def keysCommonSpec : ChangeSpec := { name := "keysCommon", fn := fun _ => fun
  | [d1, d2, d3] => { results := [.lit (.bool true)], args := [d1, d2, d3] }
  | _ => none }
def keysCommonRow : OpenClaim := { program := "ytiimchhbbjlegaa", sum := "674661aca456a53bf8a1177cce098e3beb2910512675224255fb5710b1515106", func := "marshalling/marshallinglaw01.KeysCommon", spec := "keysCommon", inPlace := ["internal/bytealg.abigen_runtime_cmpstring"], apart := false }
def KeysCommonSaid : Prop := keysCommonRow.holds Try.pinned (OpenSpec.ofChange keysCommonSpec)

/-- ITS FALSE NEIGHBOUR: 'it returns false'. Refute it at one input. -/
def keysCommonWrong : ChangeSpec := { name := "keysCommon", fn := fun _ => fun
  | [d1, d2, d3] => { results := [.lit (.bool false)], args := [d1, d2, d3] }
  | _ => none }
def KeysCommonWrongFalsely : Prop := keysCommonRow.holds Try.pinned (OpenSpec.ofChange keysCommonWrong)

/-- 'marshallinglaw01.KeysSlices': WHATEVER THE INPUT: true; the input reads as it did. -/
def keysSlicesSpec : ChangeSpec := { name := "keysSlices", fn := fun _ => fun
  | [d1, d2, d3, d4] => { results := [.lit (.bool true)], args := [d1, d2, d3, d4] }
  | _ => none }
def keysSlicesRow : OpenClaim := { program := "ytiimchhbbjlegaa", sum := "674661aca456a53bf8a1177cce098e3beb2910512675224255fb5710b1515106", func := "marshalling/marshallinglaw01.KeysSlices", spec := "keysSlices", inPlace := ["internal/bytealg.abigen_runtime_cmpstring"], apart := false }
def KeysSlicesSaid : Prop := keysSlicesRow.holds Try.pinned (OpenSpec.ofChange keysSlicesSpec)

/-- ITS FALSE NEIGHBOUR: 'it returns false'. Refute it at one input. -/
def keysSlicesWrong : ChangeSpec := { name := "keysSlices", fn := fun _ => fun
  | [d1, d2, d3, d4] => { results := [.lit (.bool false)], args := [d1, d2, d3, d4] }
  | _ => none }
def KeysSlicesWrongFalsely : Prop := keysSlicesRow.holds Try.pinned (OpenSpec.ofChange keysSlicesWrong)

/-- 'marshallinglaw01.KeysCut': WHATEVER THE INPUT: true; the input reads as it did. -/
def keysCutSpec : ChangeSpec := { name := "keysCut", fn := fun _ => fun
  | [d1, d2] => { results := [.lit (.bool true)], args := [d1, d2] }
  | _ => none }
def keysCutRow : OpenClaim := { program := "ytiimchhbbjlegaa", sum := "674661aca456a53bf8a1177cce098e3beb2910512675224255fb5710b1515106", func := "marshalling/marshallinglaw01.KeysCut", spec := "keysCut", inPlace := ["internal/bytealg.abigen_runtime_cmpstring"], apart := false }
def KeysCutSaid : Prop := keysCutRow.holds Try.pinned (OpenSpec.ofChange keysCutSpec)

/-- ITS FALSE NEIGHBOUR: 'it returns false'. Refute it at one input. -/
def keysCutWrong : ChangeSpec := { name := "keysCut", fn := fun _ => fun
  | [d1, d2] => { results := [.lit (.bool false)], args := [d1, d2] }
  | _ => none }
def KeysCutWrongFalsely : Prop := keysCutRow.holds Try.pinned (OpenSpec.ofChange keysCutWrong)

/-- 'marshallinglaw01.KeysNext': WHATEVER THE INPUT: true; the input reads as it did. -/
def keysNextSpec : ChangeSpec := { name := "keysNext", fn := fun _ => fun
  | [d1, d2] => { results := [.lit (.bool true)], args := [d1, d2] }
  | _ => none }
def keysNextRow : OpenClaim := { program := "ytiimchhbbjlegaa", sum := "674661aca456a53bf8a1177cce098e3beb2910512675224255fb5710b1515106", func := "marshalling/marshallinglaw01.KeysNext", spec := "keysNext", inPlace := ["internal/bytealg.abigen_runtime_cmpstring"], apart := false }
def KeysNextSaid : Prop := keysNextRow.holds Try.pinned (OpenSpec.ofChange keysNextSpec)

/-- ITS FALSE NEIGHBOUR: 'it returns false'. Refute it at one input. -/
def keysNextWrong : ChangeSpec := { name := "keysNext", fn := fun _ => fun
  | [d1, d2] => { results := [.lit (.bool false)], args := [d1, d2] }
  | _ => none }
def KeysNextWrongFalsely : Prop := keysNextRow.holds Try.pinned (OpenSpec.ofChange keysNextWrong)

/-- 'marshallinglaw01.KeysShort': WHATEVER THE INPUT: true; the input reads as it did. -/
def keysShortSpec : ChangeSpec := { name := "keysShort", fn := fun _ => fun
  | [d1, d2, d3] => { results := [.lit (.bool true)], args := [d1, d2, d3] }
  | _ => none }
def keysShortRow : OpenClaim := { program := "ytiimchhbbjlegaa", sum := "674661aca456a53bf8a1177cce098e3beb2910512675224255fb5710b1515106", func := "marshalling/marshallinglaw01.KeysShort", spec := "keysShort", inPlace := ["internal/bytealg.abigen_runtime_cmpstring"], apart := false }
def KeysShortSaid : Prop := keysShortRow.holds Try.pinned (OpenSpec.ofChange keysShortSpec)

/-- ITS FALSE NEIGHBOUR: 'it returns false'. Refute it at one input. -/
def keysShortWrong : ChangeSpec := { name := "keysShort", fn := fun _ => fun
  | [d1, d2, d3] => { results := [.lit (.bool false)], args := [d1, d2, d3] }
  | _ => none }
def KeysShortWrongFalsely : Prop := keysShortRow.holds Try.pinned (OpenSpec.ofChange keysShortWrong)

/-- 'marshallinglaw01.KeysTells': WHATEVER THE INPUT: true; the input reads as it did. -/
def keysTellsSpec : ChangeSpec := { name := "keysTells", fn := fun _ => fun
  | [d1, d2] => { results := [.lit (.bool true)], args := [d1, d2] }
  | _ => none }
def keysTellsRow : OpenClaim := { program := "ytiimchhbbjlegaa", sum := "674661aca456a53bf8a1177cce098e3beb2910512675224255fb5710b1515106", func := "marshalling/marshallinglaw01.KeysTells", spec := "keysTells", inPlace := ["internal/bytealg.abigen_runtime_cmpstring"], apart := false }
def KeysTellsSaid : Prop := keysTellsRow.holds Try.pinned (OpenSpec.ofChange keysTellsSpec)

/-- ITS FALSE NEIGHBOUR: 'it returns false'. Refute it at one input. -/
def keysTellsWrong : ChangeSpec := { name := "keysTells", fn := fun _ => fun
  | [d1, d2] => { results := [.lit (.bool false)], args := [d1, d2] }
  | _ => none }
def KeysTellsWrongFalsely : Prop := keysTellsRow.holds Try.pinned (OpenSpec.ofChange keysTellsWrong)

/-- 'marshallinglaw01.KeysOrder': WHATEVER THE INPUT: true; the input reads as it did. -/
def keysOrderSpec : ChangeSpec := { name := "keysOrder", fn := fun _ => fun
  | [d1, d2, d3] => { results := [.lit (.bool true)], args := [d1, d2, d3] }
  | _ => none }
def keysOrderRow : OpenClaim := { program := "ytiimchhbbjlegaa", sum := "674661aca456a53bf8a1177cce098e3beb2910512675224255fb5710b1515106", func := "marshalling/marshallinglaw01.KeysOrder", spec := "keysOrder", inPlace := ["internal/bytealg.abigen_runtime_cmpstring"], apart := false }
def KeysOrderSaid : Prop := keysOrderRow.holds Try.pinned (OpenSpec.ofChange keysOrderSpec)

/-- ITS FALSE NEIGHBOUR: 'it returns false'. Refute it at one input. -/
def keysOrderWrong : ChangeSpec := { name := "keysOrder", fn := fun _ => fun
  | [d1, d2, d3] => { results := [.lit (.bool false)], args := [d1, d2, d3] }
  | _ => none }
def KeysOrderWrongFalsely : Prop := keysOrderRow.holds Try.pinned (OpenSpec.ofChange keysOrderWrong)

/-- 'marshallinglaw01.KeysKnown': WHATEVER THE INPUT: true; the input reads as it did. -/
def keysKnownSpec : ChangeSpec := { name := "keysKnown", fn := fun _ => fun
  | [] => { results := [.lit (.bool true)], args := [] }
  | _ => none }
def keysKnownRow : OpenClaim := { program := "ytiimchhbbjlegaa", sum := "674661aca456a53bf8a1177cce098e3beb2910512675224255fb5710b1515106", func := "marshalling/marshallinglaw01.KeysKnown", spec := "keysKnown", inPlace := ["internal/bytealg.abigen_runtime_cmpstring", "internal/abi.NoEscape", "internal/bytealg.MakeNoZero"], apart := false }
def KeysKnownSaid : Prop := keysKnownRow.holds Try.pinned (OpenSpec.ofChange keysKnownSpec)

/-- ITS FALSE NEIGHBOUR: 'it returns false'. Refute it at one input. -/
def keysKnownWrong : ChangeSpec := { name := "keysKnown", fn := fun _ => fun
  | [] => { results := [.lit (.bool false)], args := [] }
  | _ => none }
def KeysKnownWrongFalsely : Prop := keysKnownRow.holds Try.pinned (OpenSpec.ofChange keysKnownWrong)

/- THE SECOND FORM. 'bulk': how many values and letters a reading holds, each counted each time it is reached (what is shared counts as often as it is met; a slice's spare places count too). A statement '..UptoSaid' is the law's where the arguments, and the package variables that the reading takes, are together of bulk at most 1048576: NARROWER than '..Said'. Prove '..Said' where nothing that the law and all that it calls make is longer than what came in: it says more and counts as full. Else prove '..UptoSaid'. A law counts once. -/
mutual
def uptoBulk {H : Type} : DataW H → Nat
  | .lit (.string bytes) => bytes.length + 1
  | .lit _ => 1
  | .nil => 1
  | .ptr d => uptoBulk d + 1
  | .slice elems spare => uptoBulkAll elems + uptoBulkAll spare + 1
  | .agg parts => uptoBulkAll parts + 1
  | .iface _ d => uptoBulk d + 1
  | .map entries => uptoBulkEntries entries + 1
  | .held _ => 1
def uptoBulkAll {H : Type} : List (DataW H) → Nat
  | [] => 0
  | d :: r => uptoBulk d + uptoBulkAll r
def uptoBulkEntries {H : Type} : List (Lit × DataW H) → Nat
  | [] => 0
  | x :: r => uptoBulkEntry x + uptoBulkEntries r
def uptoBulkEntry {H : Type} : Lit × DataW H → Nat
  | (.string bytes, d) => bytes.length + uptoBulk d + 1
  | (_, d) => uptoBulk d + 1
 end
def uptoSmall : (H : Type) → List (DataW H) → Bool := fun _ ds => decide (uptoBulkAll ds ≤ 1048576)
def OpenSpec.upto (s : _root_.Go.ChangeSpec) : _root_.Go.OpenSpec := { _root_.Go.OpenSpec.ofChange s with cond := some uptoSmall }

/-- 'marshallinglaw01.KeysCommon', WHERE WHAT IT READS IS OF BULK AT MOST 1048576: true; the input reads as it did. -/
def keysCommonUptoRow : OpenClaim := { program := "ytiimchhbbjlegaa", sum := "674661aca456a53bf8a1177cce098e3beb2910512675224255fb5710b1515106", func := "marshalling/marshallinglaw01.KeysCommon", spec := "keysCommon", inPlace := ["internal/bytealg.abigen_runtime_cmpstring"], apart := false, narrowed := true }
def KeysCommonUptoSaid : Prop := keysCommonUptoRow.holds Try.pinned (OpenSpec.upto keysCommonSpec)

/-- 'marshallinglaw01.KeysSlices', WHERE WHAT IT READS IS OF BULK AT MOST 1048576: true; the input reads as it did. -/
def keysSlicesUptoRow : OpenClaim := { program := "ytiimchhbbjlegaa", sum := "674661aca456a53bf8a1177cce098e3beb2910512675224255fb5710b1515106", func := "marshalling/marshallinglaw01.KeysSlices", spec := "keysSlices", inPlace := ["internal/bytealg.abigen_runtime_cmpstring"], apart := false, narrowed := true }
def KeysSlicesUptoSaid : Prop := keysSlicesUptoRow.holds Try.pinned (OpenSpec.upto keysSlicesSpec)

/-- 'marshallinglaw01.KeysCut', WHERE WHAT IT READS IS OF BULK AT MOST 1048576: true; the input reads as it did. -/
def keysCutUptoRow : OpenClaim := { program := "ytiimchhbbjlegaa", sum := "674661aca456a53bf8a1177cce098e3beb2910512675224255fb5710b1515106", func := "marshalling/marshallinglaw01.KeysCut", spec := "keysCut", inPlace := ["internal/bytealg.abigen_runtime_cmpstring"], apart := false, narrowed := true }
def KeysCutUptoSaid : Prop := keysCutUptoRow.holds Try.pinned (OpenSpec.upto keysCutSpec)

/-- 'marshallinglaw01.KeysNext', WHERE WHAT IT READS IS OF BULK AT MOST 1048576: true; the input reads as it did. -/
def keysNextUptoRow : OpenClaim := { program := "ytiimchhbbjlegaa", sum := "674661aca456a53bf8a1177cce098e3beb2910512675224255fb5710b1515106", func := "marshalling/marshallinglaw01.KeysNext", spec := "keysNext", inPlace := ["internal/bytealg.abigen_runtime_cmpstring"], apart := false, narrowed := true }
def KeysNextUptoSaid : Prop := keysNextUptoRow.holds Try.pinned (OpenSpec.upto keysNextSpec)

/-- 'marshallinglaw01.KeysShort', WHERE WHAT IT READS IS OF BULK AT MOST 1048576: true; the input reads as it did. -/
def keysShortUptoRow : OpenClaim := { program := "ytiimchhbbjlegaa", sum := "674661aca456a53bf8a1177cce098e3beb2910512675224255fb5710b1515106", func := "marshalling/marshallinglaw01.KeysShort", spec := "keysShort", inPlace := ["internal/bytealg.abigen_runtime_cmpstring"], apart := false, narrowed := true }
def KeysShortUptoSaid : Prop := keysShortUptoRow.holds Try.pinned (OpenSpec.upto keysShortSpec)

/-- 'marshallinglaw01.KeysTells', WHERE WHAT IT READS IS OF BULK AT MOST 1048576: true; the input reads as it did. -/
def keysTellsUptoRow : OpenClaim := { program := "ytiimchhbbjlegaa", sum := "674661aca456a53bf8a1177cce098e3beb2910512675224255fb5710b1515106", func := "marshalling/marshallinglaw01.KeysTells", spec := "keysTells", inPlace := ["internal/bytealg.abigen_runtime_cmpstring"], apart := false, narrowed := true }
def KeysTellsUptoSaid : Prop := keysTellsUptoRow.holds Try.pinned (OpenSpec.upto keysTellsSpec)

/-- 'marshallinglaw01.KeysOrder', WHERE WHAT IT READS IS OF BULK AT MOST 1048576: true; the input reads as it did. -/
def keysOrderUptoRow : OpenClaim := { program := "ytiimchhbbjlegaa", sum := "674661aca456a53bf8a1177cce098e3beb2910512675224255fb5710b1515106", func := "marshalling/marshallinglaw01.KeysOrder", spec := "keysOrder", inPlace := ["internal/bytealg.abigen_runtime_cmpstring"], apart := false, narrowed := true }
def KeysOrderUptoSaid : Prop := keysOrderUptoRow.holds Try.pinned (OpenSpec.upto keysOrderSpec)

/-- 'marshallinglaw01.KeysKnown', WHERE WHAT IT READS IS OF BULK AT MOST 1048576: true; the input reads as it did. -/
def keysKnownUptoRow : OpenClaim := { program := "ytiimchhbbjlegaa", sum := "674661aca456a53bf8a1177cce098e3beb2910512675224255fb5710b1515106", func := "marshalling/marshallinglaw01.KeysKnown", spec := "keysKnown", inPlace := ["internal/bytealg.abigen_runtime_cmpstring", "internal/abi.NoEscape", "internal/bytealg.MakeNoZero"], apart := false, narrowed := true }
def KeysKnownUptoSaid : Prop := keysKnownUptoRow.holds Try.pinned (OpenSpec.upto keysKnownSpec)

end Rows
end Go.Proofs.Ytiimchhbbjlegaa
