/-
  No cell of these rows narrows 'for every input' (looked for: loops, veiled, ifaces, maps, wideKeys, modest, calm, conditions, laid).
  DERIVED. THE GIVEN ROWS OF THIS SEAT. 6 by the template 'for every input the law returns true; each argument reads behind the call as it read before'; 0 by the template 'total and deterministic' (their statements: YtndcdmmmfplbbaaTotals.lean).
  GIVEN WITH THE SEED: the statements are not yours to turn. If you find one false, say at which input.
  Laid BY PROGRAM, IN A SANDBOX (cutbox-rows.mjs): the forced cells as the released guide's own fill.sh prints them over the translation 778a10cd8514c26d… (all of the seat's roots in one cut). By AI agents, Wed Nov 11 2026. No macro, syntax, notation, axiom, sorry.
-/
import Derived.Test.YtndcdmmmfplbbaaChecked
import GoSem.Claim
import GoSem.ClaimJoined
import GoSem.ClaimMapViews
import Derived.JoinedTies
import Derived.KernelRfl
namespace Go.Proofs.Ytndcdmmmfplbbaa
/- THE CELL 'sum', in the pinned program and in every row, IS THE sha256 OF THE DUMP (.gsa) THAT YtndcdmmmfplbbaaProg.lean LOADS. Nothing in Lean hashes anything: it is a label: what it is worth is what the hold of that sum in a sandbox is worth. -/
noncomputable def Try.pinned : Pinned := { name := "ytndcdmmmfplbbaa", sum := "778a10cd8514c26da899805bfd8c9bba39abf7e915e13fc40318c7efc0ebdd7b", checked := Try.checked }
namespace Rows
def none {H : Type} : Left H := { results := [], args := [] }

/-- 'marshallinglaw07.OmapPlays': WHATEVER THE INPUT: true; the input reads as it did. -/
def omapPlaysSpec : ChangeSpec := { name := "omapPlays", fn := fun _ => fun
  | [d1, d2] => { results := [.lit (.bool true)], args := [d1, d2] }
  | _ => none }
def omapPlaysRow : OpenClaim := { program := "ytndcdmmmfplbbaa", sum := "778a10cd8514c26da899805bfd8c9bba39abf7e915e13fc40318c7efc0ebdd7b", func := "marshalling/marshallinglaw07.OmapPlays", spec := "omapPlays", inPlace := ["slices.overlaps[marshalling/api.Pair]"], unfollowed := true, recurses := true, apart := false }
def OmapPlaysSaid : Prop := omapPlaysRow.holds Try.pinned (OpenSpec.ofChange omapPlaysSpec)

/-- ITS FALSE NEIGHBOUR: 'it returns false'. Refute it at one input. -/
def omapPlaysWrong : ChangeSpec := { name := "omapPlays", fn := fun _ => fun
  | [d1, d2] => { results := [.lit (.bool false)], args := [d1, d2] }
  | _ => none }
def OmapPlaysWrongFalsely : Prop := omapPlaysRow.holds Try.pinned (OpenSpec.ofChange omapPlaysWrong)

/-- 'marshallinglaw07.OmapNobody': WHATEVER THE INPUT: true; the input reads as it did. -/
def omapNobodySpec : ChangeSpec := { name := "omapNobody", fn := fun _ => fun
  | [d] => { results := [.lit (.bool true)], args := [d] }
  | _ => none }
def omapNobodyRow : OpenClaim := { program := "ytndcdmmmfplbbaa", sum := "778a10cd8514c26da899805bfd8c9bba39abf7e915e13fc40318c7efc0ebdd7b", func := "marshalling/marshallinglaw07.OmapNobody", spec := "omapNobody", inPlace := ["slices.overlaps[marshalling/api.Pair]"], unfollowed := true, recurses := true, apart := false }
def OmapNobodySaid : Prop := omapNobodyRow.holds Try.pinned (OpenSpec.ofChange omapNobodySpec)

/-- ITS FALSE NEIGHBOUR: 'it returns false'. Refute it at one input. -/
def omapNobodyWrong : ChangeSpec := { name := "omapNobody", fn := fun _ => fun
  | [d] => { results := [.lit (.bool false)], args := [d] }
  | _ => none }
def OmapNobodyWrongFalsely : Prop := omapNobodyRow.holds Try.pinned (OpenSpec.ofChange omapNobodyWrong)

/-- 'marshallinglaw07.OmapLasts': WHATEVER THE INPUT: true; the input reads as it did. -/
def omapLastsSpec : ChangeSpec := { name := "omapLasts", fn := fun _ => fun
  | [d1, d2, d3] => { results := [.lit (.bool true)], args := [d1, d2, d3] }
  | _ => none }
def omapLastsRow : OpenClaim := { program := "ytndcdmmmfplbbaa", sum := "778a10cd8514c26da899805bfd8c9bba39abf7e915e13fc40318c7efc0ebdd7b", func := "marshalling/marshallinglaw07.OmapLasts", spec := "omapLasts", inPlace := ["slices.overlaps[marshalling/api.Pair]"], unfollowed := true, recurses := true, apart := false }
def OmapLastsSaid : Prop := omapLastsRow.holds Try.pinned (OpenSpec.ofChange omapLastsSpec)

/-- ITS FALSE NEIGHBOUR: 'it returns false'. Refute it at one input. -/
def omapLastsWrong : ChangeSpec := { name := "omapLasts", fn := fun _ => fun
  | [d1, d2, d3] => { results := [.lit (.bool false)], args := [d1, d2, d3] }
  | _ => none }
def OmapLastsWrongFalsely : Prop := omapLastsRow.holds Try.pinned (OpenSpec.ofChange omapLastsWrong)

/-- 'marshallinglaw07.OmapBatch': WHATEVER THE INPUT: true; the input reads as it did. -/
def omapBatchSpec : ChangeSpec := { name := "omapBatch", fn := fun _ => fun
  | [d1, d2] => { results := [.lit (.bool true)], args := [d1, d2] }
  | _ => none }
def omapBatchRow : OpenClaim := { program := "ytndcdmmmfplbbaa", sum := "778a10cd8514c26da899805bfd8c9bba39abf7e915e13fc40318c7efc0ebdd7b", func := "marshalling/marshallinglaw07.OmapBatch", spec := "omapBatch", inPlace := ["slices.overlaps[marshalling/api.Pair]"], unfollowed := true, recurses := true, apart := false }
def OmapBatchSaid : Prop := omapBatchRow.holds Try.pinned (OpenSpec.ofChange omapBatchSpec)

/-- ITS FALSE NEIGHBOUR: 'it returns false'. Refute it at one input. -/
def omapBatchWrong : ChangeSpec := { name := "omapBatch", fn := fun _ => fun
  | [d1, d2] => { results := [.lit (.bool false)], args := [d1, d2] }
  | _ => none }
def OmapBatchWrongFalsely : Prop := omapBatchRow.holds Try.pinned (OpenSpec.ofChange omapBatchWrong)

/-- 'marshallinglaw07.OmapKnown': WHATEVER THE INPUT: true; the input reads as it did. -/
def omapKnownSpec : ChangeSpec := { name := "omapKnown", fn := fun _ => fun
  | [] => { results := [.lit (.bool true)], args := [] }
  | _ => none }
def omapKnownRow : OpenClaim := { program := "ytndcdmmmfplbbaa", sum := "778a10cd8514c26da899805bfd8c9bba39abf7e915e13fc40318c7efc0ebdd7b", func := "marshalling/marshallinglaw07.OmapKnown", spec := "omapKnown", inPlace := ["slices.overlaps[marshalling/api.Pair]"], unfollowed := true, recurses := true, apart := false }
def OmapKnownSaid : Prop := omapKnownRow.holds Try.pinned (OpenSpec.ofChange omapKnownSpec)

/-- ITS FALSE NEIGHBOUR: 'it returns false'. Refute it at one input. -/
def omapKnownWrong : ChangeSpec := { name := "omapKnown", fn := fun _ => fun
  | [] => { results := [.lit (.bool false)], args := [] }
  | _ => none }
def OmapKnownWrongFalsely : Prop := omapKnownRow.holds Try.pinned (OpenSpec.ofChange omapKnownWrong)

/-- 'marshallinglaw07.OmapApart': WHATEVER THE INPUT: true; the input reads as it did. -/
def omapApartSpec : ChangeSpec := { name := "omapApart", fn := fun _ => fun
  | [d1, d2, d3] => { results := [.lit (.bool true)], args := [d1, d2, d3] }
  | _ => none }
def omapApartRow : OpenClaim := { program := "ytndcdmmmfplbbaa", sum := "778a10cd8514c26da899805bfd8c9bba39abf7e915e13fc40318c7efc0ebdd7b", func := "marshalling/marshallinglaw07.OmapApart", spec := "omapApart", inPlace := ["slices.overlaps[marshalling/api.Pair]"], unfollowed := true, recurses := true, apart := false }
def OmapApartSaid : Prop := omapApartRow.holds Try.pinned (OpenSpec.ofChange omapApartSpec)

/-- ITS FALSE NEIGHBOUR: 'it returns false'. Refute it at one input. -/
def omapApartWrong : ChangeSpec := { name := "omapApart", fn := fun _ => fun
  | [d1, d2, d3] => { results := [.lit (.bool false)], args := [d1, d2, d3] }
  | _ => none }
def OmapApartWrongFalsely : Prop := omapApartRow.holds Try.pinned (OpenSpec.ofChange omapApartWrong)

/- THE SECOND FORM. 'bulk': how many values and letters a reading holds, each counted each time it is reached (what is shared counts as often as it is met; a slice's spare places count too). A statement '..UptoSaid' is the law's where the arguments, and the package variables that the reading takes, are together of bulk at most 1048576: NARROWER than '..Said'. Prove '..Said' where nothing that the law and all that it calls make is longer than what came in: it says more and counts as full. Else prove '..UptoSaid'. A law counts once. -/
mutual
def uptoBulk {H : Type} : DataW H → Nat
  | .lit (.string bytes) => bytes.length + 1
  | .lit _ => 1
  | .nil => 1
  | .ptr d => uptoBulk d + 1
  | .slice elems spare => uptoBulkAll elems + uptoBulkAll spare + 1
  | .agg parts => uptoBulkAll parts + 1
  | .iface _ d => uptoBulk d + 1
  | .map entries => uptoBulkEntries entries + 1
  | .held _ => 1
def uptoBulkAll {H : Type} : List (DataW H) → Nat
  | [] => 0
  | d :: r => uptoBulk d + uptoBulkAll r
def uptoBulkEntries {H : Type} : List (Lit × DataW H) → Nat
  | [] => 0
  | x :: r => uptoBulkEntry x + uptoBulkEntries r
def uptoBulkEntry {H : Type} : Lit × DataW H → Nat
  | (.string bytes, d) => bytes.length + uptoBulk d + 1
  | (_, d) => uptoBulk d + 1
 end
def uptoSmall : (H : Type) → List (DataW H) → Bool := fun _ ds => decide (uptoBulkAll ds ≤ 1048576)
def OpenSpec.upto (s : _root_.Go.ChangeSpec) : _root_.Go.OpenSpec := { _root_.Go.OpenSpec.ofChange s with cond := some uptoSmall }

/-- 'marshallinglaw07.OmapPlays', WHERE WHAT IT READS IS OF BULK AT MOST 1048576: true; the input reads as it did. -/
def omapPlaysUptoRow : OpenClaim := { program := "ytndcdmmmfplbbaa", sum := "778a10cd8514c26da899805bfd8c9bba39abf7e915e13fc40318c7efc0ebdd7b", func := "marshalling/marshallinglaw07.OmapPlays", spec := "omapPlays", inPlace := ["slices.overlaps[marshalling/api.Pair]"], unfollowed := true, recurses := true, apart := false, narrowed := true }
def OmapPlaysUptoSaid : Prop := omapPlaysUptoRow.holds Try.pinned (OpenSpec.upto omapPlaysSpec)

/-- 'marshallinglaw07.OmapNobody', WHERE WHAT IT READS IS OF BULK AT MOST 1048576: true; the input reads as it did. -/
def omapNobodyUptoRow : OpenClaim := { program := "ytndcdmmmfplbbaa", sum := "778a10cd8514c26da899805bfd8c9bba39abf7e915e13fc40318c7efc0ebdd7b", func := "marshalling/marshallinglaw07.OmapNobody", spec := "omapNobody", inPlace := ["slices.overlaps[marshalling/api.Pair]"], unfollowed := true, recurses := true, apart := false, narrowed := true }
def OmapNobodyUptoSaid : Prop := omapNobodyUptoRow.holds Try.pinned (OpenSpec.upto omapNobodySpec)

/-- 'marshallinglaw07.OmapLasts', WHERE WHAT IT READS IS OF BULK AT MOST 1048576: true; the input reads as it did. -/
def omapLastsUptoRow : OpenClaim := { program := "ytndcdmmmfplbbaa", sum := "778a10cd8514c26da899805bfd8c9bba39abf7e915e13fc40318c7efc0ebdd7b", func := "marshalling/marshallinglaw07.OmapLasts", spec := "omapLasts", inPlace := ["slices.overlaps[marshalling/api.Pair]"], unfollowed := true, recurses := true, apart := false, narrowed := true }
def OmapLastsUptoSaid : Prop := omapLastsUptoRow.holds Try.pinned (OpenSpec.upto omapLastsSpec)

/-- 'marshallinglaw07.OmapBatch', WHERE WHAT IT READS IS OF BULK AT MOST 1048576: true; the input reads as it did. -/
def omapBatchUptoRow : OpenClaim := { program := "ytndcdmmmfplbbaa", sum := "778a10cd8514c26da899805bfd8c9bba39abf7e915e13fc40318c7efc0ebdd7b", func := "marshalling/marshallinglaw07.OmapBatch", spec := "omapBatch", inPlace := ["slices.overlaps[marshalling/api.Pair]"], unfollowed := true, recurses := true, apart := false, narrowed := true }
def OmapBatchUptoSaid : Prop := omapBatchUptoRow.holds Try.pinned (OpenSpec.upto omapBatchSpec)

/-- 'marshallinglaw07.OmapKnown', WHERE WHAT IT READS IS OF BULK AT MOST 1048576: true; the input reads as it did. -/
def omapKnownUptoRow : OpenClaim := { program := "ytndcdmmmfplbbaa", sum := "778a10cd8514c26da899805bfd8c9bba39abf7e915e13fc40318c7efc0ebdd7b", func := "marshalling/marshallinglaw07.OmapKnown", spec := "omapKnown", inPlace := ["slices.overlaps[marshalling/api.Pair]"], unfollowed := true, recurses := true, apart := false, narrowed := true }
def OmapKnownUptoSaid : Prop := omapKnownUptoRow.holds Try.pinned (OpenSpec.upto omapKnownSpec)

/-- 'marshallinglaw07.OmapApart', WHERE WHAT IT READS IS OF BULK AT MOST 1048576: true; the input reads as it did. -/
def omapApartUptoRow : OpenClaim := { program := "ytndcdmmmfplbbaa", sum := "778a10cd8514c26da899805bfd8c9bba39abf7e915e13fc40318c7efc0ebdd7b", func := "marshalling/marshallinglaw07.OmapApart", spec := "omapApart", inPlace := ["slices.overlaps[marshalling/api.Pair]"], unfollowed := true, recurses := true, apart := false, narrowed := true }
def OmapApartUptoSaid : Prop := omapApartUptoRow.holds Try.pinned (OpenSpec.upto omapApartSpec)

end Rows
end Go.Proofs.Ytndcdmmmfplbbaa
