/-
  No cell of these rows narrows 'for every input' (looked for: loops, veiled, ifaces, maps, wideKeys, modest, calm, conditions, laid).
  DERIVED. THE GIVEN ROWS OF THIS SEAT. 6 by the template 'for every input the law returns true; each argument reads behind the call as it read before'; 0 by the template 'total and deterministic' (their statements: YtkjbdldjfjkneaaTotals.lean).
  GIVEN WITH THE SEED: the statements are not yours to turn. If you find one false, say at which input.
  Laid BY PROGRAM, IN A SANDBOX (cutbox-rows.mjs): the forced cells as the released guide's own fill.sh prints them over the translation e7f464ddd5bed4f5… (all of the seat's roots in one cut). By AI agents, Wed Nov 11 2026. No macro, syntax, notation, axiom, sorry.
-/
import Derived.Test.YtkjbdldjfjkneaaChecked
import GoSem.Claim
import GoSem.ClaimJoined
import GoSem.ClaimMapViews
import Derived.JoinedTies
import Derived.KernelRfl
namespace Go.Proofs.Ytkjbdldjfjkneaa
/- THE CELL 'sum', in the pinned program and in every row, IS THE sha256 OF THE DUMP (.gsa) THAT YtkjbdldjfjkneaaProg.lean LOADS. Nothing in Lean hashes anything: it is a label: what it is worth is what the hold of that sum in a sandbox is worth. -/
noncomputable def Try.pinned : Pinned := { name := "ytkjbdldjfjkneaa", sum := "e7f464ddd5bed4f5028e710ad439fdf4d2c74752988cad0d35fb2b2c5ba80cef", checked := Try.checked }
namespace Rows
def none {H : Type} : Left H := { results := [], args := [] }

/-- 'marshallinglaw18.DirWhole': WHATEVER THE INPUT: true; the input reads as it did. -/
def dirWholeSpec : ChangeSpec := { name := "dirWhole", fn := fun _ => fun
  | [d1, d2] => { results := [.lit (.bool true)], args := [d1, d2] }
  | _ => none }
def dirWholeRow : OpenClaim := { program := "ytkjbdldjfjkneaa", sum := "e7f464ddd5bed4f5028e710ad439fdf4d2c74752988cad0d35fb2b2c5ba80cef", func := "marshalling/marshallinglaw18.DirWhole", spec := "dirWhole", inPlace := ["internal/bytealg.abigen_runtime_cmpstring"], unfollowed := true, recurses := true, apart := false }
def DirWholeSaid : Prop := dirWholeRow.holds Try.pinned (OpenSpec.ofChange dirWholeSpec)

/-- ITS FALSE NEIGHBOUR: 'it returns false'. Refute it at one input. -/
def dirWholeWrong : ChangeSpec := { name := "dirWhole", fn := fun _ => fun
  | [d1, d2] => { results := [.lit (.bool false)], args := [d1, d2] }
  | _ => none }
def DirWholeWrongFalsely : Prop := dirWholeRow.holds Try.pinned (OpenSpec.ofChange dirWholeWrong)

/-- 'marshallinglaw18.DirKnown': WHATEVER THE INPUT: true; the input reads as it did. -/
def dirKnownSpec : ChangeSpec := { name := "dirKnown", fn := fun _ => fun
  | [] => { results := [.lit (.bool true)], args := [] }
  | _ => none }
def dirKnownRow : OpenClaim := { program := "ytkjbdldjfjkneaa", sum := "e7f464ddd5bed4f5028e710ad439fdf4d2c74752988cad0d35fb2b2c5ba80cef", func := "marshalling/marshallinglaw18.DirKnown", spec := "dirKnown", inPlace := ["internal/bytealg.abigen_runtime_cmpstring"], unfollowed := true, recurses := true, apart := false }
def DirKnownSaid : Prop := dirKnownRow.holds Try.pinned (OpenSpec.ofChange dirKnownSpec)

/-- ITS FALSE NEIGHBOUR: 'it returns false'. Refute it at one input. -/
def dirKnownWrong : ChangeSpec := { name := "dirKnown", fn := fun _ => fun
  | [] => { results := [.lit (.bool false)], args := [] }
  | _ => none }
def DirKnownWrongFalsely : Prop := dirKnownRow.holds Try.pinned (OpenSpec.ofChange dirKnownWrong)

/-- 'marshallinglaw18.DirRises': WHATEVER THE INPUT: true; the input reads as it did. -/
def dirRisesSpec : ChangeSpec := { name := "dirRises", fn := fun _ => fun
  | [d1, d2, d3] => { results := [.lit (.bool true)], args := [d1, d2, d3] }
  | _ => none }
def dirRisesRow : OpenClaim := { program := "ytkjbdldjfjkneaa", sum := "e7f464ddd5bed4f5028e710ad439fdf4d2c74752988cad0d35fb2b2c5ba80cef", func := "marshalling/marshallinglaw18.DirRises", spec := "dirRises", inPlace := ["internal/bytealg.abigen_runtime_cmpstring"], unfollowed := true, recurses := true, apart := false }
def DirRisesSaid : Prop := dirRisesRow.holds Try.pinned (OpenSpec.ofChange dirRisesSpec)

/-- ITS FALSE NEIGHBOUR: 'it returns false'. Refute it at one input. -/
def dirRisesWrong : ChangeSpec := { name := "dirRises", fn := fun _ => fun
  | [d1, d2, d3] => { results := [.lit (.bool false)], args := [d1, d2, d3] }
  | _ => none }
def DirRisesWrongFalsely : Prop := dirRisesRow.holds Try.pinned (OpenSpec.ofChange dirRisesWrong)

/-- 'marshallinglaw18.DirPlays': WHATEVER THE INPUT: true; the input reads as it did. -/
def dirPlaysSpec : ChangeSpec := { name := "dirPlays", fn := fun _ => fun
  | [d1, d2] => { results := [.lit (.bool true)], args := [d1, d2] }
  | _ => none }
def dirPlaysRow : OpenClaim := { program := "ytkjbdldjfjkneaa", sum := "e7f464ddd5bed4f5028e710ad439fdf4d2c74752988cad0d35fb2b2c5ba80cef", func := "marshalling/marshallinglaw18.DirPlays", spec := "dirPlays", inPlace := ["internal/bytealg.abigen_runtime_cmpstring"], unfollowed := true, recurses := true, apart := false }
def DirPlaysSaid : Prop := dirPlaysRow.holds Try.pinned (OpenSpec.ofChange dirPlaysSpec)

/-- ITS FALSE NEIGHBOUR: 'it returns false'. Refute it at one input. -/
def dirPlaysWrong : ChangeSpec := { name := "dirPlays", fn := fun _ => fun
  | [d1, d2] => { results := [.lit (.bool false)], args := [d1, d2] }
  | _ => none }
def DirPlaysWrongFalsely : Prop := dirPlaysRow.holds Try.pinned (OpenSpec.ofChange dirPlaysWrong)

/-- 'marshallinglaw18.DirNobody': WHATEVER THE INPUT: true; the input reads as it did. -/
def dirNobodySpec : ChangeSpec := { name := "dirNobody", fn := fun _ => fun
  | [d1, d2] => { results := [.lit (.bool true)], args := [d1, d2] }
  | _ => none }
def dirNobodyRow : OpenClaim := { program := "ytkjbdldjfjkneaa", sum := "e7f464ddd5bed4f5028e710ad439fdf4d2c74752988cad0d35fb2b2c5ba80cef", func := "marshalling/marshallinglaw18.DirNobody", spec := "dirNobody", inPlace := ["internal/bytealg.abigen_runtime_cmpstring"], unfollowed := true, recurses := true, apart := false }
def DirNobodySaid : Prop := dirNobodyRow.holds Try.pinned (OpenSpec.ofChange dirNobodySpec)

/-- ITS FALSE NEIGHBOUR: 'it returns false'. Refute it at one input. -/
def dirNobodyWrong : ChangeSpec := { name := "dirNobody", fn := fun _ => fun
  | [d1, d2] => { results := [.lit (.bool false)], args := [d1, d2] }
  | _ => none }
def DirNobodyWrongFalsely : Prop := dirNobodyRow.holds Try.pinned (OpenSpec.ofChange dirNobodyWrong)

/-- 'marshallinglaw18.DirBack': WHATEVER THE INPUT: true; the input reads as it did. -/
def dirBackSpec : ChangeSpec := { name := "dirBack", fn := fun _ => fun
  | [d1, d2, d3] => { results := [.lit (.bool true)], args := [d1, d2, d3] }
  | _ => none }
def dirBackRow : OpenClaim := { program := "ytkjbdldjfjkneaa", sum := "e7f464ddd5bed4f5028e710ad439fdf4d2c74752988cad0d35fb2b2c5ba80cef", func := "marshalling/marshallinglaw18.DirBack", spec := "dirBack", inPlace := ["internal/bytealg.abigen_runtime_cmpstring"], unfollowed := true, recurses := true, apart := false }
def DirBackSaid : Prop := dirBackRow.holds Try.pinned (OpenSpec.ofChange dirBackSpec)

/-- ITS FALSE NEIGHBOUR: 'it returns false'. Refute it at one input. -/
def dirBackWrong : ChangeSpec := { name := "dirBack", fn := fun _ => fun
  | [d1, d2, d3] => { results := [.lit (.bool false)], args := [d1, d2, d3] }
  | _ => none }
def DirBackWrongFalsely : Prop := dirBackRow.holds Try.pinned (OpenSpec.ofChange dirBackWrong)

/- THE SECOND FORM. 'bulk': how many values and letters a reading holds, each counted each time it is reached (what is shared counts as often as it is met; a slice's spare places count too). A statement '..UptoSaid' is the law's where the arguments, and the package variables that the reading takes, are together of bulk at most 1048576: NARROWER than '..Said'. Prove '..Said' where nothing that the law and all that it calls make is longer than what came in: it says more and counts as full. Else prove '..UptoSaid'. A law counts once. -/
mutual
def uptoBulk {H : Type} : DataW H → Nat
  | .lit (.string bytes) => bytes.length + 1
  | .lit _ => 1
  | .nil => 1
  | .ptr d => uptoBulk d + 1
  | .slice elems spare => uptoBulkAll elems + uptoBulkAll spare + 1
  | .agg parts => uptoBulkAll parts + 1
  | .iface _ d => uptoBulk d + 1
  | .map entries => uptoBulkEntries entries + 1
  | .held _ => 1
def uptoBulkAll {H : Type} : List (DataW H) → Nat
  | [] => 0
  | d :: r => uptoBulk d + uptoBulkAll r
def uptoBulkEntries {H : Type} : List (Lit × DataW H) → Nat
  | [] => 0
  | x :: r => uptoBulkEntry x + uptoBulkEntries r
def uptoBulkEntry {H : Type} : Lit × DataW H → Nat
  | (.string bytes, d) => bytes.length + uptoBulk d + 1
  | (_, d) => uptoBulk d + 1
 end
def uptoSmall : (H : Type) → List (DataW H) → Bool := fun _ ds => decide (uptoBulkAll ds ≤ 1048576)
def OpenSpec.upto (s : _root_.Go.ChangeSpec) : _root_.Go.OpenSpec := { _root_.Go.OpenSpec.ofChange s with cond := some uptoSmall }

/-- 'marshallinglaw18.DirWhole', WHERE WHAT IT READS IS OF BULK AT MOST 1048576: true; the input reads as it did. -/
def dirWholeUptoRow : OpenClaim := { program := "ytkjbdldjfjkneaa", sum := "e7f464ddd5bed4f5028e710ad439fdf4d2c74752988cad0d35fb2b2c5ba80cef", func := "marshalling/marshallinglaw18.DirWhole", spec := "dirWhole", inPlace := ["internal/bytealg.abigen_runtime_cmpstring"], unfollowed := true, recurses := true, apart := false, narrowed := true }
def DirWholeUptoSaid : Prop := dirWholeUptoRow.holds Try.pinned (OpenSpec.upto dirWholeSpec)

/-- 'marshallinglaw18.DirKnown', WHERE WHAT IT READS IS OF BULK AT MOST 1048576: true; the input reads as it did. -/
def dirKnownUptoRow : OpenClaim := { program := "ytkjbdldjfjkneaa", sum := "e7f464ddd5bed4f5028e710ad439fdf4d2c74752988cad0d35fb2b2c5ba80cef", func := "marshalling/marshallinglaw18.DirKnown", spec := "dirKnown", inPlace := ["internal/bytealg.abigen_runtime_cmpstring"], unfollowed := true, recurses := true, apart := false, narrowed := true }
def DirKnownUptoSaid : Prop := dirKnownUptoRow.holds Try.pinned (OpenSpec.upto dirKnownSpec)

/-- 'marshallinglaw18.DirRises', WHERE WHAT IT READS IS OF BULK AT MOST 1048576: true; the input reads as it did. -/
def dirRisesUptoRow : OpenClaim := { program := "ytkjbdldjfjkneaa", sum := "e7f464ddd5bed4f5028e710ad439fdf4d2c74752988cad0d35fb2b2c5ba80cef", func := "marshalling/marshallinglaw18.DirRises", spec := "dirRises", inPlace := ["internal/bytealg.abigen_runtime_cmpstring"], unfollowed := true, recurses := true, apart := false, narrowed := true }
def DirRisesUptoSaid : Prop := dirRisesUptoRow.holds Try.pinned (OpenSpec.upto dirRisesSpec)

/-- 'marshallinglaw18.DirPlays', WHERE WHAT IT READS IS OF BULK AT MOST 1048576: true; the input reads as it did. -/
def dirPlaysUptoRow : OpenClaim := { program := "ytkjbdldjfjkneaa", sum := "e7f464ddd5bed4f5028e710ad439fdf4d2c74752988cad0d35fb2b2c5ba80cef", func := "marshalling/marshallinglaw18.DirPlays", spec := "dirPlays", inPlace := ["internal/bytealg.abigen_runtime_cmpstring"], unfollowed := true, recurses := true, apart := false, narrowed := true }
def DirPlaysUptoSaid : Prop := dirPlaysUptoRow.holds Try.pinned (OpenSpec.upto dirPlaysSpec)

/-- 'marshallinglaw18.DirNobody', WHERE WHAT IT READS IS OF BULK AT MOST 1048576: true; the input reads as it did. -/
def dirNobodyUptoRow : OpenClaim := { program := "ytkjbdldjfjkneaa", sum := "e7f464ddd5bed4f5028e710ad439fdf4d2c74752988cad0d35fb2b2c5ba80cef", func := "marshalling/marshallinglaw18.DirNobody", spec := "dirNobody", inPlace := ["internal/bytealg.abigen_runtime_cmpstring"], unfollowed := true, recurses := true, apart := false, narrowed := true }
def DirNobodyUptoSaid : Prop := dirNobodyUptoRow.holds Try.pinned (OpenSpec.upto dirNobodySpec)

/-- 'marshallinglaw18.DirBack', WHERE WHAT IT READS IS OF BULK AT MOST 1048576: true; the input reads as it did. -/
def dirBackUptoRow : OpenClaim := { program := "ytkjbdldjfjkneaa", sum := "e7f464ddd5bed4f5028e710ad439fdf4d2c74752988cad0d35fb2b2c5ba80cef", func := "marshalling/marshallinglaw18.DirBack", spec := "dirBack", inPlace := ["internal/bytealg.abigen_runtime_cmpstring"], unfollowed := true, recurses := true, apart := false, narrowed := true }
def DirBackUptoSaid : Prop := dirBackUptoRow.holds Try.pinned (OpenSpec.upto dirBackSpec)

end Rows
end Go.Proofs.Ytkjbdldjfjkneaa
