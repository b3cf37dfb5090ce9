/- The data of operations, answers, pairs. -/
import Derived.Test.YtndcdmmmfplbbaaLGa
set_option linter.unusedVariables false
set_option linter.unusedSimpArgs false
namespace Go.Proofs.Ytndcdmmmfplbbaa.LF
open Go.RowKit

structure Ans where
  code : Int
  found : Bool
  key : ByteArray
  val : ByteArray
deriving DecidableEq
structure Wr where
  key : ByteArray
  val : ByteArray
  gone : Bool
deriving DecidableEq
structure OpV where
  kind : Int
  key : ByteArray
  val : ByteArray
  old : ByteArray
  had : Bool
  after : Bool
  writes : List Wr
deriving DecidableEq
structure Pr where
  key : ByteArray
  val : ByteArray
deriving DecidableEq

def noAns : Ans := ⟨0, false, noBytes, noBytes⟩
def noOp : OpV := ⟨0, noBytes, noBytes, noBytes, false, false, []⟩

def wrL (x : Wr) : List LV := [sv x.key, sv x.val, bv x.gone]
def ansL (a : Ans) : List LV := [iv a.code, bv a.found, sv a.key, sv a.val]
def opL (o : OpV) : List LV := [uv o.kind, sv o.key, sv o.val, sv o.old, bv o.had, bv o.after, .sl .sh (o.writes.map wrL)]
def prL (p : Pr) : List LV := [sv p.key, sv p.val]
theorem prL_len (p : Pr) : (prL p).length = 2 := rfl
end Go.Proofs.Ytndcdmmmfplbbaa.LF
