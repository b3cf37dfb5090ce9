/- linear.Some's closure: its data, its bits, what it answers. -/
import Derived.Test.YtandbjhedkgldaaLLf
import Derived.Test.YtandbjhedkgldaaLPt
namespace Go.Proofs.Ytandbjhedkgldaa.LF
open Go.RowKit H
set_option linter.unusedVariables false

structure One where
  op : OpV
  a : Ans
  ended : Bool
  ahead : Nat
deriving DecidableEq
def oneL (x : One) : List LV := [uv x.op.kind, sv x.op.key, sv x.op.val, sv x.op.old, bv x.op.had, bv x.op.after, .sl .sh (x.op.writes.map wrL), iv x.a.code, bv x.a.found, sv x.a.key, sv x.a.val, bv x.ended, .v (.int .u64 (x.ahead : Nat))]
theorem oneL_len (x : One) : (oneL x).length = 13 := rfl
theorem rdOne {A B : List LV} {l : List One} {off j : Nat} (ho : A.length = off) (hj : j < l.length) : readT ti69 ((A ++ (cellsR oneL l ++ B)).drop (off + j * 13)) = some (.agg (oneL l[j])) := by
  subst ho
  rw [List.drop_length_add_append, cellsR_at oneL_len l B hj]
  rfl

theorem bit_at : ∀ t : Nat, t < 128 → ∀ i, i < 7 → (bits .and .u64 ((t / 2 ^ i : Nat) : Int) 1 == 1) = t.testBit i := by decide +kernel
def blocked (a t : Nat) : Bool := a &&& t != a
theorem bit_not : ∀ a : Nat, a < 128 → ∀ t : Nat, t < 128 → (bits .andNot .u64 (a : Int) (t : Int) != 0) = blocked a t := by decide +kernel
theorem bit_or : ∀ t : Nat, t < 128 → ∀ i, i < 7 → bits .or .u64 (t : Int) (((1 * 2 ^ i) % 18446744073709551616 : Nat) : Int) = ((t ||| 2 ^ i : Nat) : Int) := by decide +kernel
theorem or_lt : ∀ t, t < 128 → ∀ i, i < 7 → t ||| 2 ^ i < 128 := by decide +kernel
/-- How many are not taken yet. -/
def cnt (n t : Nat) : Nat := (List.range n).countP fun i => !t.testBit i
theorem cnt_or : ∀ n, n < 8 → ∀ t, t < 128 → ∀ i, i < n → t.testBit i = false → cnt n (t ||| 2 ^ i) + 1 ≤ cnt n t := by decide +kernel

/-- One round behind another; rec: what a call of itself gives. -/
def goS (rec : Nat → List Pr → Bool) (t : Nat) (at_ : List Pr) : Nat → List One → Bool → Bool
  | _, [], left => !left
  | i, x :: xs, left =>
    if t.testBit i = true then goS rec t at_ (i + 1) xs left
    else if blocked x.ahead t = true then goS rec t at_ (i + 1) xs (left || x.ended)
    else if (x.ended && idleS x.a) = true then rec (t ||| 2 ^ i) at_
    else if (x.ended && !decide (doA (newP at_) x.op = x.a)) = true then goS rec t at_ (i + 1) xs (left || x.ended)
    else if rec (t ||| 2 ^ i) (doM (newP at_) x.op) = true then true
    else goS rec t at_ (i + 1) xs (left || x.ended)
def tryS (all : List One) : Nat → Nat → List Pr → Bool
  | 0, _, _ => true
  | n + 1, t, at_ => goS (tryS all n) t at_ 0 all false
end Go.Proofs.Ytandbjhedkgldaa.LF
