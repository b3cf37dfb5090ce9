/-
  No cell of these rows narrows 'for every input' (looked for: loops, veiled, ifaces, maps, wideKeys, modest, calm, conditions, laid).
  DERIVED. THE GIVEN ROWS OF THIS SEAT. 7 by the template 'for every input the law returns true; each argument reads behind the call as it read before'; 0 by the template 'total and deterministic' (their statements: YtjcpcgneghanfaaTotals.lean).
  GIVEN WITH THE SEED: the statements are not yours to turn. If you find one false, say at which input.
  Laid BY PROGRAM, IN A SANDBOX (cutbox-rows.mjs): the forced cells as the released guide's own fill.sh prints them over the translation 0bb8ac11127916dd… (all of the seat's roots in one cut). By AI agents, Wed Nov 11 2026. No macro, syntax, notation, axiom, sorry.
-/
import Derived.Test.YtjcpcgneghanfaaChecked
import GoSem.Claim
import GoSem.ClaimJoined
import GoSem.ClaimMapViews
import Derived.JoinedTies
import Derived.KernelRfl
namespace Go.Proofs.Ytjcpcgneghanfaa
/- THE CELL 'sum', in the pinned program and in every row, IS THE sha256 OF THE DUMP (.gsa) THAT YtjcpcgneghanfaaProg.lean LOADS. Nothing in Lean hashes anything: it is a label: what it is worth is what the hold of that sum in a sandbox is worth. -/
noncomputable def Try.pinned : Pinned := { name := "ytjcpcgneghanfaa", sum := "0bb8ac11127916ddd335db4d54216b50f508e9377104238dab428eb73f0e83f7", checked := Try.checked }
namespace Rows
def none {H : Type} : Left H := { results := [], args := [] }

/-- 'marshallinglaw09.BlnodeReads': WHATEVER THE INPUT: true; the input reads as it did. -/
def blnodeReadsSpec : ChangeSpec := { name := "blnodeReads", fn := fun _ => fun
  | [d1, d2] => { results := [.lit (.bool true)], args := [d1, d2] }
  | _ => none }
def blnodeReadsRow : OpenClaim := { program := "ytjcpcgneghanfaa", sum := "0bb8ac11127916ddd335db4d54216b50f508e9377104238dab428eb73f0e83f7", func := "marshalling/marshallinglaw09.BlnodeReads", spec := "blnodeReads", inPlace := ["internal/bytealg.abigen_runtime_cmpstring", "slices.overlaps[string]"], apart := false }
def BlnodeReadsSaid : Prop := blnodeReadsRow.holds Try.pinned (OpenSpec.ofChange blnodeReadsSpec)

/-- ITS FALSE NEIGHBOUR: 'it returns false'. Refute it at one input. -/
def blnodeReadsWrong : ChangeSpec := { name := "blnodeReads", fn := fun _ => fun
  | [d1, d2] => { results := [.lit (.bool false)], args := [d1, d2] }
  | _ => none }
def BlnodeReadsWrongFalsely : Prop := blnodeReadsRow.holds Try.pinned (OpenSpec.ofChange blnodeReadsWrong)

/-- 'marshallinglaw09.BlnodeKids': WHATEVER THE INPUT: true; the input reads as it did. -/
def blnodeKidsSpec : ChangeSpec := { name := "blnodeKids", fn := fun _ => fun
  | [d1, d2, d3, d4] => { results := [.lit (.bool true)], args := [d1, d2, d3, d4] }
  | _ => none }
def blnodeKidsRow : OpenClaim := { program := "ytjcpcgneghanfaa", sum := "0bb8ac11127916ddd335db4d54216b50f508e9377104238dab428eb73f0e83f7", func := "marshalling/marshallinglaw09.BlnodeKids", spec := "blnodeKids", inPlace := ["internal/bytealg.abigen_runtime_cmpstring", "slices.overlaps[string]", "slices.overlaps[marshalling/api.Handle]"], apart := false }
def BlnodeKidsSaid : Prop := blnodeKidsRow.holds Try.pinned (OpenSpec.ofChange blnodeKidsSpec)

/-- ITS FALSE NEIGHBOUR: 'it returns false'. Refute it at one input. -/
def blnodeKidsWrong : ChangeSpec := { name := "blnodeKids", fn := fun _ => fun
  | [d1, d2, d3, d4] => { results := [.lit (.bool false)], args := [d1, d2, d3, d4] }
  | _ => none }
def BlnodeKidsWrongFalsely : Prop := blnodeKidsRow.holds Try.pinned (OpenSpec.ofChange blnodeKidsWrong)

/-- 'marshallinglaw09.BlnodeSplits': WHATEVER THE INPUT: true; the input reads as it did. -/
def blnodeSplitsSpec : ChangeSpec := { name := "blnodeSplits", fn := fun _ => fun
  | [d1, d2] => { results := [.lit (.bool true)], args := [d1, d2] }
  | _ => none }
def blnodeSplitsRow : OpenClaim := { program := "ytjcpcgneghanfaa", sum := "0bb8ac11127916ddd335db4d54216b50f508e9377104238dab428eb73f0e83f7", func := "marshalling/marshallinglaw09.BlnodeSplits", spec := "blnodeSplits", inPlace := ["internal/bytealg.abigen_runtime_cmpstring", "slices.overlaps[string]"], apart := false }
def BlnodeSplitsSaid : Prop := blnodeSplitsRow.holds Try.pinned (OpenSpec.ofChange blnodeSplitsSpec)

/-- ITS FALSE NEIGHBOUR: 'it returns false'. Refute it at one input. -/
def blnodeSplitsWrong : ChangeSpec := { name := "blnodeSplits", fn := fun _ => fun
  | [d1, d2] => { results := [.lit (.bool false)], args := [d1, d2] }
  | _ => none }
def BlnodeSplitsWrongFalsely : Prop := blnodeSplitsRow.holds Try.pinned (OpenSpec.ofChange blnodeSplitsWrong)

/-- 'marshallinglaw09.BlnodeOnce': WHATEVER THE INPUT: true; the input reads as it did. -/
def blnodeOnceSpec : ChangeSpec := { name := "blnodeOnce", fn := fun _ => fun
  | [d1, d2, d3, d4, d5] => { results := [.lit (.bool true)], args := [d1, d2, d3, d4, d5] }
  | _ => none }
def blnodeOnceRow : OpenClaim := { program := "ytjcpcgneghanfaa", sum := "0bb8ac11127916ddd335db4d54216b50f508e9377104238dab428eb73f0e83f7", func := "marshalling/marshallinglaw09.BlnodeOnce", spec := "blnodeOnce", inPlace := ["internal/bytealg.abigen_runtime_cmpstring", "slices.overlaps[string]"], apart := false }
def BlnodeOnceSaid : Prop := blnodeOnceRow.holds Try.pinned (OpenSpec.ofChange blnodeOnceSpec)

/-- ITS FALSE NEIGHBOUR: 'it returns false'. Refute it at one input. -/
def blnodeOnceWrong : ChangeSpec := { name := "blnodeOnce", fn := fun _ => fun
  | [d1, d2, d3, d4, d5] => { results := [.lit (.bool false)], args := [d1, d2, d3, d4, d5] }
  | _ => none }
def BlnodeOnceWrongFalsely : Prop := blnodeOnceRow.holds Try.pinned (OpenSpec.ofChange blnodeOnceWrong)

/-- 'marshallinglaw09.BlnodeWrites': WHATEVER THE INPUT: true; the input reads as it did. -/
def blnodeWritesSpec : ChangeSpec := { name := "blnodeWrites", fn := fun _ => fun
  | [d1, d2, d3, d4] => { results := [.lit (.bool true)], args := [d1, d2, d3, d4] }
  | _ => none }
def blnodeWritesRow : OpenClaim := { program := "ytjcpcgneghanfaa", sum := "0bb8ac11127916ddd335db4d54216b50f508e9377104238dab428eb73f0e83f7", func := "marshalling/marshallinglaw09.BlnodeWrites", spec := "blnodeWrites", inPlace := ["internal/bytealg.abigen_runtime_cmpstring", "slices.overlaps[string]", "slices.overlaps[marshalling/api.Handle]"], apart := false }
def BlnodeWritesSaid : Prop := blnodeWritesRow.holds Try.pinned (OpenSpec.ofChange blnodeWritesSpec)

/-- ITS FALSE NEIGHBOUR: 'it returns false'. Refute it at one input. -/
def blnodeWritesWrong : ChangeSpec := { name := "blnodeWrites", fn := fun _ => fun
  | [d1, d2, d3, d4] => { results := [.lit (.bool false)], args := [d1, d2, d3, d4] }
  | _ => none }
def BlnodeWritesWrongFalsely : Prop := blnodeWritesRow.holds Try.pinned (OpenSpec.ofChange blnodeWritesWrong)

/-- 'marshallinglaw09.BlnodeKnown': WHATEVER THE INPUT: true; the input reads as it did. -/
def blnodeKnownSpec : ChangeSpec := { name := "blnodeKnown", fn := fun _ => fun
  | [] => { results := [.lit (.bool true)], args := [] }
  | _ => none }
def blnodeKnownRow : OpenClaim := { program := "ytjcpcgneghanfaa", sum := "0bb8ac11127916ddd335db4d54216b50f508e9377104238dab428eb73f0e83f7", func := "marshalling/marshallinglaw09.BlnodeKnown", spec := "blnodeKnown", inPlace := ["internal/bytealg.abigen_runtime_cmpstring", "slices.overlaps[string]", "slices.overlaps[marshalling/api.Handle]"], apart := false }
def BlnodeKnownSaid : Prop := blnodeKnownRow.holds Try.pinned (OpenSpec.ofChange blnodeKnownSpec)

/-- ITS FALSE NEIGHBOUR: 'it returns false'. Refute it at one input. -/
def blnodeKnownWrong : ChangeSpec := { name := "blnodeKnown", fn := fun _ => fun
  | [] => { results := [.lit (.bool false)], args := [] }
  | _ => none }
def BlnodeKnownWrongFalsely : Prop := blnodeKnownRow.holds Try.pinned (OpenSpec.ofChange blnodeKnownWrong)

/-- 'marshallinglaw09.BlnodeHalves': WHATEVER THE INPUT: true; the input reads as it did. -/
def blnodeHalvesSpec : ChangeSpec := { name := "blnodeHalves", fn := fun _ => fun
  | [d1, d2, d3, d4, d5] => { results := [.lit (.bool true)], args := [d1, d2, d3, d4, d5] }
  | _ => none }
def blnodeHalvesRow : OpenClaim := { program := "ytjcpcgneghanfaa", sum := "0bb8ac11127916ddd335db4d54216b50f508e9377104238dab428eb73f0e83f7", func := "marshalling/marshallinglaw09.BlnodeHalves", spec := "blnodeHalves", inPlace := ["internal/bytealg.abigen_runtime_cmpstring", "slices.overlaps[string]", "slices.overlaps[marshalling/api.Handle]"], apart := false }
def BlnodeHalvesSaid : Prop := blnodeHalvesRow.holds Try.pinned (OpenSpec.ofChange blnodeHalvesSpec)

/-- ITS FALSE NEIGHBOUR: 'it returns false'. Refute it at one input. -/
def blnodeHalvesWrong : ChangeSpec := { name := "blnodeHalves", fn := fun _ => fun
  | [d1, d2, d3, d4, d5] => { results := [.lit (.bool false)], args := [d1, d2, d3, d4, d5] }
  | _ => none }
def BlnodeHalvesWrongFalsely : Prop := blnodeHalvesRow.holds Try.pinned (OpenSpec.ofChange blnodeHalvesWrong)

/- THE SECOND FORM. 'bulk': how many values and letters a reading holds, each counted each time it is reached (what is shared counts as often as it is met; a slice's spare places count too). A statement '..UptoSaid' is the law's where the arguments, and the package variables that the reading takes, are together of bulk at most 1048576: NARROWER than '..Said'. Prove '..Said' where nothing that the law and all that it calls make is longer than what came in: it says more and counts as full. Else prove '..UptoSaid'. A law counts once. -/
mutual
def uptoBulk {H : Type} : DataW H → Nat
  | .lit (.string bytes) => bytes.length + 1
  | .lit _ => 1
  | .nil => 1
  | .ptr d => uptoBulk d + 1
  | .slice elems spare => uptoBulkAll elems + uptoBulkAll spare + 1
  | .agg parts => uptoBulkAll parts + 1
  | .iface _ d => uptoBulk d + 1
  | .map entries => uptoBulkEntries entries + 1
  | .held _ => 1
def uptoBulkAll {H : Type} : List (DataW H) → Nat
  | [] => 0
  | d :: r => uptoBulk d + uptoBulkAll r
def uptoBulkEntries {H : Type} : List (Lit × DataW H) → Nat
  | [] => 0
  | x :: r => uptoBulkEntry x + uptoBulkEntries r
def uptoBulkEntry {H : Type} : Lit × DataW H → Nat
  | (.string bytes, d) => bytes.length + uptoBulk d + 1
  | (_, d) => uptoBulk d + 1
 end
def uptoSmall : (H : Type) → List (DataW H) → Bool := fun _ ds => decide (uptoBulkAll ds ≤ 1048576)
def OpenSpec.upto (s : _root_.Go.ChangeSpec) : _root_.Go.OpenSpec := { _root_.Go.OpenSpec.ofChange s with cond := some uptoSmall }

/-- 'marshallinglaw09.BlnodeReads', WHERE WHAT IT READS IS OF BULK AT MOST 1048576: true; the input reads as it did. -/
def blnodeReadsUptoRow : OpenClaim := { program := "ytjcpcgneghanfaa", sum := "0bb8ac11127916ddd335db4d54216b50f508e9377104238dab428eb73f0e83f7", func := "marshalling/marshallinglaw09.BlnodeReads", spec := "blnodeReads", inPlace := ["internal/bytealg.abigen_runtime_cmpstring", "slices.overlaps[string]"], apart := false, narrowed := true }
def BlnodeReadsUptoSaid : Prop := blnodeReadsUptoRow.holds Try.pinned (OpenSpec.upto blnodeReadsSpec)

/-- 'marshallinglaw09.BlnodeKids', WHERE WHAT IT READS IS OF BULK AT MOST 1048576: true; the input reads as it did. -/
def blnodeKidsUptoRow : OpenClaim := { program := "ytjcpcgneghanfaa", sum := "0bb8ac11127916ddd335db4d54216b50f508e9377104238dab428eb73f0e83f7", func := "marshalling/marshallinglaw09.BlnodeKids", spec := "blnodeKids", inPlace := ["internal/bytealg.abigen_runtime_cmpstring", "slices.overlaps[string]", "slices.overlaps[marshalling/api.Handle]"], apart := false, narrowed := true }
def BlnodeKidsUptoSaid : Prop := blnodeKidsUptoRow.holds Try.pinned (OpenSpec.upto blnodeKidsSpec)

/-- 'marshallinglaw09.BlnodeSplits', WHERE WHAT IT READS IS OF BULK AT MOST 1048576: true; the input reads as it did. -/
def blnodeSplitsUptoRow : OpenClaim := { program := "ytjcpcgneghanfaa", sum := "0bb8ac11127916ddd335db4d54216b50f508e9377104238dab428eb73f0e83f7", func := "marshalling/marshallinglaw09.BlnodeSplits", spec := "blnodeSplits", inPlace := ["internal/bytealg.abigen_runtime_cmpstring", "slices.overlaps[string]"], apart := false, narrowed := true }
def BlnodeSplitsUptoSaid : Prop := blnodeSplitsUptoRow.holds Try.pinned (OpenSpec.upto blnodeSplitsSpec)

/-- 'marshallinglaw09.BlnodeOnce', WHERE WHAT IT READS IS OF BULK AT MOST 1048576: true; the input reads as it did. -/
def blnodeOnceUptoRow : OpenClaim := { program := "ytjcpcgneghanfaa", sum := "0bb8ac11127916ddd335db4d54216b50f508e9377104238dab428eb73f0e83f7", func := "marshalling/marshallinglaw09.BlnodeOnce", spec := "blnodeOnce", inPlace := ["internal/bytealg.abigen_runtime_cmpstring", "slices.overlaps[string]"], apart := false, narrowed := true }
def BlnodeOnceUptoSaid : Prop := blnodeOnceUptoRow.holds Try.pinned (OpenSpec.upto blnodeOnceSpec)

/-- 'marshallinglaw09.BlnodeWrites', WHERE WHAT IT READS IS OF BULK AT MOST 1048576: true; the input reads as it did. -/
def blnodeWritesUptoRow : OpenClaim := { program := "ytjcpcgneghanfaa", sum := "0bb8ac11127916ddd335db4d54216b50f508e9377104238dab428eb73f0e83f7", func := "marshalling/marshallinglaw09.BlnodeWrites", spec := "blnodeWrites", inPlace := ["internal/bytealg.abigen_runtime_cmpstring", "slices.overlaps[string]", "slices.overlaps[marshalling/api.Handle]"], apart := false, narrowed := true }
def BlnodeWritesUptoSaid : Prop := blnodeWritesUptoRow.holds Try.pinned (OpenSpec.upto blnodeWritesSpec)

/-- 'marshallinglaw09.BlnodeKnown', WHERE WHAT IT READS IS OF BULK AT MOST 1048576: true; the input reads as it did. -/
def blnodeKnownUptoRow : OpenClaim := { program := "ytjcpcgneghanfaa", sum := "0bb8ac11127916ddd335db4d54216b50f508e9377104238dab428eb73f0e83f7", func := "marshalling/marshallinglaw09.BlnodeKnown", spec := "blnodeKnown", inPlace := ["internal/bytealg.abigen_runtime_cmpstring", "slices.overlaps[string]", "slices.overlaps[marshalling/api.Handle]"], apart := false, narrowed := true }
def BlnodeKnownUptoSaid : Prop := blnodeKnownUptoRow.holds Try.pinned (OpenSpec.upto blnodeKnownSpec)

/-- 'marshallinglaw09.BlnodeHalves', WHERE WHAT IT READS IS OF BULK AT MOST 1048576: true; the input reads as it did. -/
def blnodeHalvesUptoRow : OpenClaim := { program := "ytjcpcgneghanfaa", sum := "0bb8ac11127916ddd335db4d54216b50f508e9377104238dab428eb73f0e83f7", func := "marshalling/marshallinglaw09.BlnodeHalves", spec := "blnodeHalves", inPlace := ["internal/bytealg.abigen_runtime_cmpstring", "slices.overlaps[string]", "slices.overlaps[marshalling/api.Handle]"], apart := false, narrowed := true }
def BlnodeHalvesUptoSaid : Prop := blnodeHalvesUptoRow.holds Try.pinned (OpenSpec.upto blnodeHalvesSpec)

end Rows
end Go.Proofs.Ytjcpcgneghanfaa
