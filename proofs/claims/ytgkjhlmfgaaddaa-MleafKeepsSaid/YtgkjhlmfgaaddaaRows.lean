/-
  No cell of these rows narrows 'for every input' (looked for: loops, veiled, ifaces, maps, wideKeys, modest, calm, conditions, laid).
  DERIVED. THE GIVEN ROWS OF THIS SEAT. 8 by the template 'for every input the law returns true; each argument reads behind the call as it read before'; 0 by the template 'total and deterministic' (their statements: YtgkjhlmfgaaddaaTotals.lean).
  GIVEN WITH THE SEED: the statements are not yours to turn. If you find one false, say at which input.
  Laid BY PROGRAM, IN A SANDBOX (cutbox-rows.mjs): the forced cells as the released guide's own fill.sh prints them over the translation 302414a8e28ba5ab… (all of the seat's roots in one cut). By AI agents, Wed Nov 11 2026. No macro, syntax, notation, axiom, sorry.
-/
import Derived.Test.YtgkjhlmfgaaddaaChecked
import GoSem.Claim
import GoSem.ClaimJoined
import GoSem.ClaimMapViews
import Derived.JoinedTies
import Derived.KernelRfl
namespace Go.Proofs.Ytgkjhlmfgaaddaa
/- THE CELL 'sum', in the pinned program and in every row, IS THE sha256 OF THE DUMP (.gsa) THAT YtgkjhlmfgaaddaaProg.lean LOADS. Nothing in Lean hashes anything: it is a label: what it is worth is what the hold of that sum in a sandbox is worth. -/
noncomputable def Try.pinned : Pinned := { name := "ytgkjhlmfgaaddaa", sum := "302414a8e28ba5abc1c0571121f80517a5e2b27d0d053ae2c67d1938757ba33b", checked := Try.checked }
namespace Rows
def none {H : Type} : Left H := { results := [], args := [] }

/-- 'marshallinglaw14.MleafRows': WHATEVER THE INPUT: true; the input reads as it did. -/
def mleafRowsSpec : ChangeSpec := { name := "mleafRows", fn := fun _ => fun
  | [d1, d2, d3] => { results := [.lit (.bool true)], args := [d1, d2, d3] }
  | _ => none }
def mleafRowsRow : OpenClaim := { program := "ytgkjhlmfgaaddaa", sum := "302414a8e28ba5abc1c0571121f80517a5e2b27d0d053ae2c67d1938757ba33b", func := "marshalling/marshallinglaw14.MleafRows", spec := "mleafRows", unfollowed := true, recurses := true, apart := false }
def MleafRowsSaid : Prop := mleafRowsRow.holds Try.pinned (OpenSpec.ofChange mleafRowsSpec)

/-- ITS FALSE NEIGHBOUR: 'it returns false'. Refute it at one input. -/
def mleafRowsWrong : ChangeSpec := { name := "mleafRows", fn := fun _ => fun
  | [d1, d2, d3] => { results := [.lit (.bool false)], args := [d1, d2, d3] }
  | _ => none }
def MleafRowsWrongFalsely : Prop := mleafRowsRow.holds Try.pinned (OpenSpec.ofChange mleafRowsWrong)

/-- 'marshallinglaw14.MleafReads': WHATEVER THE INPUT: true; the input reads as it did. -/
def mleafReadsSpec : ChangeSpec := { name := "mleafReads", fn := fun _ => fun
  | [d1, d2, d3] => { results := [.lit (.bool true)], args := [d1, d2, d3] }
  | _ => none }
def mleafReadsRow : OpenClaim := { program := "ytgkjhlmfgaaddaa", sum := "302414a8e28ba5abc1c0571121f80517a5e2b27d0d053ae2c67d1938757ba33b", func := "marshalling/marshallinglaw14.MleafReads", spec := "mleafReads", unfollowed := true, recurses := true, apart := false }
def MleafReadsSaid : Prop := mleafReadsRow.holds Try.pinned (OpenSpec.ofChange mleafReadsSpec)

/-- ITS FALSE NEIGHBOUR: 'it returns false'. Refute it at one input. -/
def mleafReadsWrong : ChangeSpec := { name := "mleafReads", fn := fun _ => fun
  | [d1, d2, d3] => { results := [.lit (.bool false)], args := [d1, d2, d3] }
  | _ => none }
def MleafReadsWrongFalsely : Prop := mleafReadsRow.holds Try.pinned (OpenSpec.ofChange mleafReadsWrong)

/-- 'marshallinglaw14.MleafMarks': WHATEVER THE INPUT: true; the input reads as it did. -/
def mleafMarksSpec : ChangeSpec := { name := "mleafMarks", fn := fun _ => fun
  | [d1, d2, d3, d4, d5] => { results := [.lit (.bool true)], args := [d1, d2, d3, d4, d5] }
  | _ => none }
def mleafMarksRow : OpenClaim := { program := "ytgkjhlmfgaaddaa", sum := "302414a8e28ba5abc1c0571121f80517a5e2b27d0d053ae2c67d1938757ba33b", func := "marshalling/marshallinglaw14.MleafMarks", spec := "mleafMarks", unfollowed := true, recurses := true, apart := false }
def MleafMarksSaid : Prop := mleafMarksRow.holds Try.pinned (OpenSpec.ofChange mleafMarksSpec)

/-- ITS FALSE NEIGHBOUR: 'it returns false'. Refute it at one input. -/
def mleafMarksWrong : ChangeSpec := { name := "mleafMarks", fn := fun _ => fun
  | [d1, d2, d3, d4, d5] => { results := [.lit (.bool false)], args := [d1, d2, d3, d4, d5] }
  | _ => none }
def MleafMarksWrongFalsely : Prop := mleafMarksRow.holds Try.pinned (OpenSpec.ofChange mleafMarksWrong)

/-- 'marshallinglaw14.MleafOrder': WHATEVER THE INPUT: true; the input reads as it did. -/
def mleafOrderSpec : ChangeSpec := { name := "mleafOrder", fn := fun _ => fun
  | [d1, d2, d3, d4] => { results := [.lit (.bool true)], args := [d1, d2, d3, d4] }
  | _ => none }
def mleafOrderRow : OpenClaim := { program := "ytgkjhlmfgaaddaa", sum := "302414a8e28ba5abc1c0571121f80517a5e2b27d0d053ae2c67d1938757ba33b", func := "marshalling/marshallinglaw14.MleafOrder", spec := "mleafOrder", inPlace := ["internal/bytealg.abigen_runtime_cmpstring"], unfollowed := true, recurses := true, apart := false }
def MleafOrderSaid : Prop := mleafOrderRow.holds Try.pinned (OpenSpec.ofChange mleafOrderSpec)

/-- ITS FALSE NEIGHBOUR: 'it returns false'. Refute it at one input. -/
def mleafOrderWrong : ChangeSpec := { name := "mleafOrder", fn := fun _ => fun
  | [d1, d2, d3, d4] => { results := [.lit (.bool false)], args := [d1, d2, d3, d4] }
  | _ => none }
def MleafOrderWrongFalsely : Prop := mleafOrderRow.holds Try.pinned (OpenSpec.ofChange mleafOrderWrong)

/-- 'marshallinglaw14.MleafOnce': WHATEVER THE INPUT: true; the input reads as it did. -/
def mleafOnceSpec : ChangeSpec := { name := "mleafOnce", fn := fun _ => fun
  | [d1, d2] => { results := [.lit (.bool true)], args := [d1, d2] }
  | _ => none }
def mleafOnceRow : OpenClaim := { program := "ytgkjhlmfgaaddaa", sum := "302414a8e28ba5abc1c0571121f80517a5e2b27d0d053ae2c67d1938757ba33b", func := "marshalling/marshallinglaw14.MleafOnce", spec := "mleafOnce", unfollowed := true, recurses := true, apart := false }
def MleafOnceSaid : Prop := mleafOnceRow.holds Try.pinned (OpenSpec.ofChange mleafOnceSpec)

/-- ITS FALSE NEIGHBOUR: 'it returns false'. Refute it at one input. -/
def mleafOnceWrong : ChangeSpec := { name := "mleafOnce", fn := fun _ => fun
  | [d1, d2] => { results := [.lit (.bool false)], args := [d1, d2] }
  | _ => none }
def MleafOnceWrongFalsely : Prop := mleafOnceRow.holds Try.pinned (OpenSpec.ofChange mleafOnceWrong)

/-- 'marshallinglaw14.MleafKnown': WHATEVER THE INPUT: true; the input reads as it did. -/
def mleafKnownSpec : ChangeSpec := { name := "mleafKnown", fn := fun _ => fun
  | [] => { results := [.lit (.bool true)], args := [] }
  | _ => none }
def mleafKnownRow : OpenClaim := { program := "ytgkjhlmfgaaddaa", sum := "302414a8e28ba5abc1c0571121f80517a5e2b27d0d053ae2c67d1938757ba33b", func := "marshalling/marshallinglaw14.MleafKnown", spec := "mleafKnown", unfollowed := true, recurses := true, apart := false }
def MleafKnownSaid : Prop := mleafKnownRow.holds Try.pinned (OpenSpec.ofChange mleafKnownSpec)

/-- ITS FALSE NEIGHBOUR: 'it returns false'. Refute it at one input. -/
def mleafKnownWrong : ChangeSpec := { name := "mleafKnown", fn := fun _ => fun
  | [] => { results := [.lit (.bool false)], args := [] }
  | _ => none }
def MleafKnownWrongFalsely : Prop := mleafKnownRow.holds Try.pinned (OpenSpec.ofChange mleafKnownWrong)

/-- 'marshallinglaw14.MleafWrites': WHATEVER THE INPUT: true; the input reads as it did. -/
def mleafWritesSpec : ChangeSpec := { name := "mleafWrites", fn := fun _ => fun
  | [d1, d2, d3, d4] => { results := [.lit (.bool true)], args := [d1, d2, d3, d4] }
  | _ => none }
def mleafWritesRow : OpenClaim := { program := "ytgkjhlmfgaaddaa", sum := "302414a8e28ba5abc1c0571121f80517a5e2b27d0d053ae2c67d1938757ba33b", func := "marshalling/marshallinglaw14.MleafWrites", spec := "mleafWrites", unfollowed := true, recurses := true, apart := false }
def MleafWritesSaid : Prop := mleafWritesRow.holds Try.pinned (OpenSpec.ofChange mleafWritesSpec)

/-- ITS FALSE NEIGHBOUR: 'it returns false'. Refute it at one input. -/
def mleafWritesWrong : ChangeSpec := { name := "mleafWrites", fn := fun _ => fun
  | [d1, d2, d3, d4] => { results := [.lit (.bool false)], args := [d1, d2, d3, d4] }
  | _ => none }
def MleafWritesWrongFalsely : Prop := mleafWritesRow.holds Try.pinned (OpenSpec.ofChange mleafWritesWrong)

/-- 'marshallinglaw14.MleafKeeps': WHATEVER THE INPUT: true; the input reads as it did. -/
def mleafKeepsSpec : ChangeSpec := { name := "mleafKeeps", fn := fun _ => fun
  | [d1, d2, d3, d4] => { results := [.lit (.bool true)], args := [d1, d2, d3, d4] }
  | _ => none }
def mleafKeepsRow : OpenClaim := { program := "ytgkjhlmfgaaddaa", sum := "302414a8e28ba5abc1c0571121f80517a5e2b27d0d053ae2c67d1938757ba33b", func := "marshalling/marshallinglaw14.MleafKeeps", spec := "mleafKeeps", unfollowed := true, recurses := true, apart := false }
def MleafKeepsSaid : Prop := mleafKeepsRow.holds Try.pinned (OpenSpec.ofChange mleafKeepsSpec)

/-- ITS FALSE NEIGHBOUR: 'it returns false'. Refute it at one input. -/
def mleafKeepsWrong : ChangeSpec := { name := "mleafKeeps", fn := fun _ => fun
  | [d1, d2, d3, d4] => { results := [.lit (.bool false)], args := [d1, d2, d3, d4] }
  | _ => none }
def MleafKeepsWrongFalsely : Prop := mleafKeepsRow.holds Try.pinned (OpenSpec.ofChange mleafKeepsWrong)

/- THE SECOND FORM. 'bulk': how many values and letters a reading holds, each counted each time it is reached (what is shared counts as often as it is met; a slice's spare places count too). A statement '..UptoSaid' is the law's where the arguments, and the package variables that the reading takes, are together of bulk at most 1048576: NARROWER than '..Said'. Prove '..Said' where nothing that the law and all that it calls make is longer than what came in: it says more and counts as full. Else prove '..UptoSaid'. A law counts once. -/
mutual
def uptoBulk {H : Type} : DataW H → Nat
  | .lit (.string bytes) => bytes.length + 1
  | .lit _ => 1
  | .nil => 1
  | .ptr d => uptoBulk d + 1
  | .slice elems spare => uptoBulkAll elems + uptoBulkAll spare + 1
  | .agg parts => uptoBulkAll parts + 1
  | .iface _ d => uptoBulk d + 1
  | .map entries => uptoBulkEntries entries + 1
  | .held _ => 1
def uptoBulkAll {H : Type} : List (DataW H) → Nat
  | [] => 0
  | d :: r => uptoBulk d + uptoBulkAll r
def uptoBulkEntries {H : Type} : List (Lit × DataW H) → Nat
  | [] => 0
  | x :: r => uptoBulkEntry x + uptoBulkEntries r
def uptoBulkEntry {H : Type} : Lit × DataW H → Nat
  | (.string bytes, d) => bytes.length + uptoBulk d + 1
  | (_, d) => uptoBulk d + 1
 end
def uptoSmall : (H : Type) → List (DataW H) → Bool := fun _ ds => decide (uptoBulkAll ds ≤ 1048576)
def OpenSpec.upto (s : _root_.Go.ChangeSpec) : _root_.Go.OpenSpec := { _root_.Go.OpenSpec.ofChange s with cond := some uptoSmall }

/-- 'marshallinglaw14.MleafRows', WHERE WHAT IT READS IS OF BULK AT MOST 1048576: true; the input reads as it did. -/
def mleafRowsUptoRow : OpenClaim := { program := "ytgkjhlmfgaaddaa", sum := "302414a8e28ba5abc1c0571121f80517a5e2b27d0d053ae2c67d1938757ba33b", func := "marshalling/marshallinglaw14.MleafRows", spec := "mleafRows", unfollowed := true, recurses := true, apart := false, narrowed := true }
def MleafRowsUptoSaid : Prop := mleafRowsUptoRow.holds Try.pinned (OpenSpec.upto mleafRowsSpec)

/-- 'marshallinglaw14.MleafReads', WHERE WHAT IT READS IS OF BULK AT MOST 1048576: true; the input reads as it did. -/
def mleafReadsUptoRow : OpenClaim := { program := "ytgkjhlmfgaaddaa", sum := "302414a8e28ba5abc1c0571121f80517a5e2b27d0d053ae2c67d1938757ba33b", func := "marshalling/marshallinglaw14.MleafReads", spec := "mleafReads", unfollowed := true, recurses := true, apart := false, narrowed := true }
def MleafReadsUptoSaid : Prop := mleafReadsUptoRow.holds Try.pinned (OpenSpec.upto mleafReadsSpec)

/-- 'marshallinglaw14.MleafMarks', WHERE WHAT IT READS IS OF BULK AT MOST 1048576: true; the input reads as it did. -/
def mleafMarksUptoRow : OpenClaim := { program := "ytgkjhlmfgaaddaa", sum := "302414a8e28ba5abc1c0571121f80517a5e2b27d0d053ae2c67d1938757ba33b", func := "marshalling/marshallinglaw14.MleafMarks", spec := "mleafMarks", unfollowed := true, recurses := true, apart := false, narrowed := true }
def MleafMarksUptoSaid : Prop := mleafMarksUptoRow.holds Try.pinned (OpenSpec.upto mleafMarksSpec)

/-- 'marshallinglaw14.MleafOrder', WHERE WHAT IT READS IS OF BULK AT MOST 1048576: true; the input reads as it did. -/
def mleafOrderUptoRow : OpenClaim := { program := "ytgkjhlmfgaaddaa", sum := "302414a8e28ba5abc1c0571121f80517a5e2b27d0d053ae2c67d1938757ba33b", func := "marshalling/marshallinglaw14.MleafOrder", spec := "mleafOrder", inPlace := ["internal/bytealg.abigen_runtime_cmpstring"], unfollowed := true, recurses := true, apart := false, narrowed := true }
def MleafOrderUptoSaid : Prop := mleafOrderUptoRow.holds Try.pinned (OpenSpec.upto mleafOrderSpec)

/-- 'marshallinglaw14.MleafOnce', WHERE WHAT IT READS IS OF BULK AT MOST 1048576: true; the input reads as it did. -/
def mleafOnceUptoRow : OpenClaim := { program := "ytgkjhlmfgaaddaa", sum := "302414a8e28ba5abc1c0571121f80517a5e2b27d0d053ae2c67d1938757ba33b", func := "marshalling/marshallinglaw14.MleafOnce", spec := "mleafOnce", unfollowed := true, recurses := true, apart := false, narrowed := true }
def MleafOnceUptoSaid : Prop := mleafOnceUptoRow.holds Try.pinned (OpenSpec.upto mleafOnceSpec)

/-- 'marshallinglaw14.MleafKnown', WHERE WHAT IT READS IS OF BULK AT MOST 1048576: true; the input reads as it did. -/
def mleafKnownUptoRow : OpenClaim := { program := "ytgkjhlmfgaaddaa", sum := "302414a8e28ba5abc1c0571121f80517a5e2b27d0d053ae2c67d1938757ba33b", func := "marshalling/marshallinglaw14.MleafKnown", spec := "mleafKnown", unfollowed := true, recurses := true, apart := false, narrowed := true }
def MleafKnownUptoSaid : Prop := mleafKnownUptoRow.holds Try.pinned (OpenSpec.upto mleafKnownSpec)

/-- 'marshallinglaw14.MleafWrites', WHERE WHAT IT READS IS OF BULK AT MOST 1048576: true; the input reads as it did. -/
def mleafWritesUptoRow : OpenClaim := { program := "ytgkjhlmfgaaddaa", sum := "302414a8e28ba5abc1c0571121f80517a5e2b27d0d053ae2c67d1938757ba33b", func := "marshalling/marshallinglaw14.MleafWrites", spec := "mleafWrites", unfollowed := true, recurses := true, apart := false, narrowed := true }
def MleafWritesUptoSaid : Prop := mleafWritesUptoRow.holds Try.pinned (OpenSpec.upto mleafWritesSpec)

/-- 'marshallinglaw14.MleafKeeps', WHERE WHAT IT READS IS OF BULK AT MOST 1048576: true; the input reads as it did. -/
def mleafKeepsUptoRow : OpenClaim := { program := "ytgkjhlmfgaaddaa", sum := "302414a8e28ba5abc1c0571121f80517a5e2b27d0d053ae2c67d1938757ba33b", func := "marshalling/marshallinglaw14.MleafKeeps", spec := "mleafKeeps", unfollowed := true, recurses := true, apart := false, narrowed := true }
def MleafKeepsUptoSaid : Prop := mleafKeepsUptoRow.holds Try.pinned (OpenSpec.upto mleafKeepsSpec)

end Rows
end Go.Proofs.Ytgkjhlmfgaaddaa
