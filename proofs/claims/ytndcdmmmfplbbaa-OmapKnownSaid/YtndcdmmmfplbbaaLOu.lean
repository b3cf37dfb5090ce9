/- The walk of the law 'OmapKnown'. (Printed by gen_oknown.py.) -/
import Derived.Test.YtndcdmmmfplbbaaLOn
import Derived.Test.YtndcdmmmfplbbaaLMake
set_option linter.unusedVariables false
set_option linter.unusedSimpArgs false
namespace Go.Proofs.Ytndcdmmmfplbbaa.LF
open Go.RowKit
set_option linter.unusedVariables false

def kLong : ByteArray := ⟨#[48, 49, 50, 51, 52, 53, 54, 55, 56, 57, 48, 49, 50, 51, 52, 53, 54, 55, 56, 57, 48, 49, 50, 51, 52, 53, 54, 55, 56, 57, 48, 49, 50, 51]⟩
def k24 : ByteArray := ⟨#[48, 49, 50, 51, 52, 53, 54, 55, 56, 57, 48, 49, 50, 51, 52, 53, 54, 55, 56, 57, 48, 49, 50, 51]⟩
def k32 : ByteArray := ⟨#[48, 49, 50, 51, 52, 53, 54, 55, 56, 57, 48, 49, 50, 51, 52, 53, 54, 55, 56, 57, 48, 49, 50, 51, 52, 53, 54, 55, 56, 57, 48, 49]⟩
def k25 : ByteArray := ⟨#[48, 49, 50, 51, 52, 53, 54, 55, 56, 57, 48, 49, 50, 51, 52, 53, 54, 55, 56, 57, 48, 49, 50, 51, 52]⟩
def k33 : ByteArray := ⟨#[48, 49, 50, 51, 52, 53, 54, 55, 56, 57, 48, 49, 50, 51, 52, 53, 54, 55, 56, 57, 48, 49, 50, 51, 52, 53, 54, 55, 56, 57, 48, 49, 50]⟩
theorem e24 : kLong.extract (0 : Int).toNat (24 : Int).toNat = k24 := by decide +kernel
theorem e32 : kLong.extract (0 : Int).toNat (32 : Int).toNat = k32 := by decide +kernel
theorem e25 : kLong.extract (0 : Int).toNat (25 : Int).toNat = k25 := by decide +kernel
theorem e33 : kLong.extract (0 : Int).toNat (33 : Int).toNat = k33 := by decide +kernel
def kW0 : Wr := ⟨⟨#[98]⟩, noBytes, true⟩
def kW1 : Wr := ⟨⟨#[100]⟩, ⟨#[55]⟩, false⟩
def kW2 : Wr := ⟨⟨#[100]⟩, ⟨#[56]⟩, false⟩
def kO0 : OpV := ⟨2, ⟨#[98]⟩, ⟨#[49]⟩, noBytes, false, false, []⟩
def kA0 : Ans := ⟨0, false, noBytes, noBytes⟩
def kO1 : OpV := ⟨2, ⟨#[98]⟩, ⟨#[50]⟩, noBytes, false, false, []⟩
def kA1 : Ans := ⟨0, true, noBytes, ⟨#[49]⟩⟩
def kO2 : OpV := ⟨1, ⟨#[98]⟩, noBytes, noBytes, false, false, []⟩
def kA2 : Ans := ⟨0, true, noBytes, ⟨#[50]⟩⟩
def kO3 : OpV := ⟨1, ⟨#[99]⟩, noBytes, noBytes, false, false, []⟩
def kA3 : Ans := ⟨0, false, noBytes, noBytes⟩
def kO4 : OpV := ⟨4, ⟨#[98]⟩, ⟨#[51]⟩, ⟨#[50]⟩, true, false, []⟩
def kA4 : Ans := ⟨0, true, noBytes, ⟨#[50]⟩⟩
def kO5 : OpV := ⟨4, ⟨#[98]⟩, ⟨#[52]⟩, ⟨#[50]⟩, true, false, []⟩
def kA5 : Ans := ⟨0, false, noBytes, ⟨#[51]⟩⟩
def kO6 : OpV := ⟨4, ⟨#[99]⟩, ⟨#[53]⟩, noBytes, false, false, []⟩
def kA6 : Ans := ⟨0, true, noBytes, noBytes⟩
def kO7 : OpV := ⟨4, ⟨#[99]⟩, ⟨#[54]⟩, noBytes, false, false, []⟩
def kA7 : Ans := ⟨0, false, noBytes, ⟨#[53]⟩⟩
def kO8 : OpV := ⟨5, ⟨#[97]⟩, noBytes, noBytes, false, false, []⟩
def kA8 : Ans := ⟨0, true, ⟨#[98]⟩, ⟨#[51]⟩⟩
def kO9 : OpV := ⟨5, ⟨#[98]⟩, noBytes, noBytes, false, true, []⟩
def kA9 : Ans := ⟨0, true, ⟨#[99]⟩, ⟨#[53]⟩⟩
def kO10 : OpV := ⟨5, ⟨#[99]⟩, noBytes, noBytes, false, true, []⟩
def kA10 : Ans := ⟨0, false, noBytes, noBytes⟩
def kO11 : OpV := ⟨6, noBytes, noBytes, noBytes, false, false, [kW0, kW1, kW2]⟩
def kA11 : Ans := ⟨0, false, noBytes, noBytes⟩
def kO12 : OpV := ⟨6, noBytes, noBytes, noBytes, false, false, List.replicate 9 ⟨noBytes, noBytes, false⟩⟩
def kA12 : Ans := ⟨3, false, noBytes, noBytes⟩
def kO13 : OpV := ⟨9, noBytes, noBytes, noBytes, false, false, []⟩
def kA13 : Ans := ⟨20, false, noBytes, noBytes⟩
def kO14 : OpV := ⟨0, noBytes, noBytes, noBytes, false, false, []⟩
def kA14 : Ans := ⟨20, false, noBytes, noBytes⟩
def kO15 : OpV := ⟨2, k24, k32, noBytes, false, false, []⟩
def kA15 : Ans := ⟨0, false, noBytes, noBytes⟩
def kO16 : OpV := ⟨2, k25, noBytes, noBytes, false, false, []⟩
def kA16 : Ans := ⟨7, false, noBytes, noBytes⟩
def kO17 : OpV := ⟨2, ⟨#[107]⟩, k33, noBytes, false, false, []⟩
def kA17 : Ans := ⟨7, false, noBytes, noBytes⟩
def kO18 : OpV := ⟨3, k24, noBytes, noBytes, false, false, []⟩
def kA18 : Ans := ⟨0, true, noBytes, k32⟩
def kRows : List (OpV × Ans) := [(kO0, kA0), (kO1, kA1), (kO2, kA2), (kO3, kA3), (kO4, kA4), (kO5, kA5), (kO6, kA6), (kO7, kA7), (kO8, kA8), (kO9, kA9), (kO10, kA10), (kO11, kA11), (kO12, kA12), (kO13, kA13), (kO14, kA14), (kO15, kA15), (kO16, kA16), (kO17, kA17), (kO18, kA18)]
def rowK (p : OpV × Ans) : List LV := opL p.1 ++ ansL p.2
def kOps : List OpV := kRows.map (·.1)
def kSt (j : Nat) : List Pr := runM (newP []) (kOps.take j)
theorem kRows_len : kRows.length = 19 := rfl
theorem kAns : ∀ j : Fin 19, doA (kSt j.1) (kRows[j.1]'(by rw [kRows_len]; exact j.2)).1 = (kRows[j.1]'(by rw [kRows_len]; exact j.2)).2 ∧ (kSt j.1).length ≤ 100 := by decide +kernel
theorem kEnd : kSt 19 = [⟨⟨#[99]⟩, ⟨#[53]⟩⟩, ⟨⟨#[100]⟩, ⟨#[56]⟩⟩] := by decide +kernel
theorem kStep {j : Nat} (h : j < kRows.length) : kSt (j + 1) = doM (kSt j) kRows[j].1 := by
  unfold kSt
  rw [runM_take (by unfold kOps; simpa using h)]
  congr 1
  simp [kOps]

set_option maxHeartbeats 32000000 in
set_option maxRecDepth 40000 in
theorem oknown_L {G : Ctx} (hP : G.P = Try.prog) (S : LS) : LCalls G 7 [] (fun r _ => r = .one (bv true)) S := by
  have hD : TabOK G.P D := by rw [hP]; exact hD0
  have ea : Unit → EqTy G.P D 35 := fun _ => by rw [hP]; exact ⟨by kernel_rfl, by kernel_rfl⟩
  have ep : EqTy G.P D 50 := by rw [hP]; exact ⟨by kernel_rfl, by kernel_rfl⟩
  have cw := wakes_F hP
  have hcell : ∀ (S5 S' : LS) (b : Nat) (X X' : LV), NewO S S5 b X → MvO S5 b X S' X' → LS.leX (fun c => S.box c = none) S5 S' := fun S5 S' b X X' nw mv => ⟨fun c cs hc hx => by
    cases hq : S.box c with
    | none => exact absurd hq hx
    | some cs' =>
      have h1 := nw.le.box c cs' hq
      rw [hc] at h1
      rw [h1]; exact (nw.mv mv).le.box c cs' hq, mv.obj⟩
  refine LCalls.enter (fn := Try.f7) (by rw [hP]; exact Try.func7) rfl rfl ?_
  repeat (first | refine LOps.nil ?_ | refine andThen_normal ?_ | refine andThen_exit ?_ | refine andThen_ret ?_ | refine inBlock_normal ?_ | refine inBlock_ret ?_ | refine inBlock_here ?_ | refine inBlock_out rfl ?_ | refine LWp.seq ?_ | refine LWp.region ?_ | refine LWp.block ?_ | refine LWp.exit ?_ | refine LWp.ret ?_ | refine LWp.skip ?_ | refine LOps.valA ?_ | refine LOps.outA ?_ | refine LOps.whenA ?_ | refine LOps.pickA ?_ | refine LOps.storeA ?_)
  refine LOps.do (LDo.callX (new_L hP .nil [] (by decide) S) (by rw [hP]; exact Try.func11)) rfl rfl rfl ?_
  rintro _ S1 ⟨b, X, rfl, m, h1, h2, h3⟩
  have nw : NewO S S1 b X := ⟨h1, h2, h3⟩
  clear h1 h2 h3
  repeat (first | refine LOps.nil ?_ | refine andThen_normal ?_ | refine andThen_exit ?_ | refine andThen_ret ?_ | refine inBlock_normal ?_ | refine inBlock_ret ?_ | refine inBlock_here ?_ | refine inBlock_out rfl ?_ | refine LWp.seq ?_ | refine LWp.region ?_ | refine LWp.block ?_ | refine LWp.exit ?_ | refine LWp.ret ?_ | refine LWp.skip ?_ | refine LOps.valA ?_ | refine LOps.outA ?_ | refine LOps.whenA ?_ | refine LOps.pickA ?_ | refine LOps.storeA ?_)
  refine LWp.drawL [0, 1, 2, 3, 4, 5, 6, 7, 8, 9, 10, 11, 12, 13, 14, 15, 16, 17, 18, 19, 20, 21, 22, 23, 24, 25, 26, 27, 28, 29, 30, 31, 32, 33, 34, 35, 36, 37, 38, 39, 40, 41, 42, 43, 44, 45, 46, 47, 48, 49, 50, 51, 52, 53, 54, 55, 56, 57, 58, 59, 60, 61, 62, 63, 64, 65, 66, 67, 68, 69, 70, 71, 72, 73, 74, 75] (by rw [hP]; rfl) rfl ?_
  refine LRl.valC (r := .agg (opL kO0)) (fun _ => LVal.shTo (LVal.build hD rfl rfl rfl rfl rfl rfl rfl) rfl) ?_
  refine LRl.valC (r := .agg (ansL kA0)) (fun _ => LVal.shTo (LVal.build hD rfl rfl rfl rfl rfl rfl rfl) rfl) ?_
  refine LRl.valC (r := .agg (rowK (kO0, kA0))) (fun _ => LVal.shTo (LVal.build hD rfl rfl rfl rfl rfl rfl rfl) rfl) ?_
  refine LRl.valC (r := .agg (opL kO1)) (fun _ => LVal.shTo (LVal.build hD rfl rfl rfl rfl rfl rfl rfl) rfl) ?_
  refine LRl.valC (r := .agg (ansL kA1)) (fun _ => LVal.shTo (LVal.build hD rfl rfl rfl rfl rfl rfl rfl) rfl) ?_
  refine LRl.valC (r := .agg (rowK (kO1, kA1))) (fun _ => LVal.shTo (LVal.build hD rfl rfl rfl rfl rfl rfl rfl) rfl) ?_
  refine LRl.valC (r := .agg (opL kO2)) (fun _ => LVal.shTo (LVal.build hD rfl rfl rfl rfl rfl rfl rfl) rfl) ?_
  refine LRl.valC (r := .agg (ansL kA2)) (fun _ => LVal.shTo (LVal.build hD rfl rfl rfl rfl rfl rfl rfl) rfl) ?_
  refine LRl.valC (r := .agg (rowK (kO2, kA2))) (fun _ => LVal.shTo (LVal.build hD rfl rfl rfl rfl rfl rfl rfl) rfl) ?_
  refine LRl.valC (r := .agg (opL kO3)) (fun _ => LVal.shTo (LVal.build hD rfl rfl rfl rfl rfl rfl rfl) rfl) ?_
  refine LRl.valC (r := .agg (ansL kA3)) (fun _ => LVal.shTo (LVal.build hD rfl rfl rfl rfl rfl rfl rfl) rfl) ?_
  refine LRl.valC (r := .agg (rowK (kO3, kA3))) (fun _ => LVal.shTo (LVal.build hD rfl rfl rfl rfl rfl rfl rfl) rfl) ?_
  refine LRl.valC (r := .agg (opL kO4)) (fun _ => LVal.shTo (LVal.build hD rfl rfl rfl rfl rfl rfl rfl) rfl) ?_
  refine LRl.valC (r := .agg (ansL kA4)) (fun _ => LVal.shTo (LVal.build hD rfl rfl rfl rfl rfl rfl rfl) rfl) ?_
  refine LRl.valC (r := .agg (rowK (kO4, kA4))) (fun _ => LVal.shTo (LVal.build hD rfl rfl rfl rfl rfl rfl rfl) rfl) ?_
  refine LRl.valC (r := .agg (opL kO5)) (fun _ => LVal.shTo (LVal.build hD rfl rfl rfl rfl rfl rfl rfl) rfl) ?_
  refine LRl.valC (r := .agg (ansL kA5)) (fun _ => LVal.shTo (LVal.build hD rfl rfl rfl rfl rfl rfl rfl) rfl) ?_
  refine LRl.valC (r := .agg (rowK (kO5, kA5))) (fun _ => LVal.shTo (LVal.build hD rfl rfl rfl rfl rfl rfl rfl) rfl) ?_
  refine LRl.valC (r := .agg (opL kO6)) (fun _ => LVal.shTo (LVal.build hD rfl rfl rfl rfl rfl rfl rfl) rfl) ?_
  refine LRl.valC (r := .agg (ansL kA6)) (fun _ => LVal.shTo (LVal.build hD rfl rfl rfl rfl rfl rfl rfl) rfl) ?_
  refine LRl.valC (r := .agg (rowK (kO6, kA6))) (fun _ => LVal.shTo (LVal.build hD rfl rfl rfl rfl rfl rfl rfl) rfl) ?_
  refine LRl.valC (r := .agg (opL kO7)) (fun _ => LVal.shTo (LVal.build hD rfl rfl rfl rfl rfl rfl rfl) rfl) ?_
  refine LRl.valC (r := .agg (ansL kA7)) (fun _ => LVal.shTo (LVal.build hD rfl rfl rfl rfl rfl rfl rfl) rfl) ?_
  refine LRl.valC (r := .agg (rowK (kO7, kA7))) (fun _ => LVal.shTo (LVal.build hD rfl rfl rfl rfl rfl rfl rfl) rfl) ?_
  refine LRl.valC (r := .agg (opL kO8)) (fun _ => LVal.shTo (LVal.build hD rfl rfl rfl rfl rfl rfl rfl) rfl) ?_
  refine LRl.valC (r := .agg (ansL kA8)) (fun _ => LVal.shTo (LVal.build hD rfl rfl rfl rfl rfl rfl rfl) rfl) ?_
  refine LRl.valC (r := .agg (rowK (kO8, kA8))) (fun _ => LVal.shTo (LVal.build hD rfl rfl rfl rfl rfl rfl rfl) rfl) ?_
  refine LRl.valC (r := .agg (opL kO9)) (fun _ => LVal.shTo (LVal.build hD rfl rfl rfl rfl rfl rfl rfl) rfl) ?_
  refine LRl.valC (r := .agg (ansL kA9)) (fun _ => LVal.shTo (LVal.build hD rfl rfl rfl rfl rfl rfl rfl) rfl) ?_
  refine LRl.valC (r := .agg (rowK (kO9, kA9))) (fun _ => LVal.shTo (LVal.build hD rfl rfl rfl rfl rfl rfl rfl) rfl) ?_
  refine LRl.valC (r := .agg (opL kO10)) (fun _ => LVal.shTo (LVal.build hD rfl rfl rfl rfl rfl rfl rfl) rfl) ?_
  refine LRl.valC (r := .agg (ansL kA10)) (fun _ => LVal.shTo (LVal.build hD rfl rfl rfl rfl rfl rfl rfl) rfl) ?_
  refine LRl.valC (r := .agg (rowK (kO10, kA10))) (fun _ => LVal.shTo (LVal.build hD rfl rfl rfl rfl rfl rfl rfl) rfl) ?_
  refine LRl.valC (r := .agg (wrL kW0)) (fun _ => LVal.shTo (LVal.build hD rfl rfl rfl rfl rfl rfl rfl) rfl) ?_
  refine LRl.valC (r := .agg (wrL kW1)) (fun _ => LVal.shTo (LVal.build hD rfl rfl rfl rfl rfl rfl rfl) rfl) ?_
  refine LRl.valC (r := .agg (wrL kW2)) (fun _ => LVal.shTo (LVal.build hD rfl rfl rfl rfl rfl rfl rfl) rfl) ?_
  refine LRl.valC (r := .one (.sl .sh (kO11.writes.map wrL))) (fun _ => LVal.to (LVal.buildSlice hD rfl rfl rfl rfl rfl rfl rfl rfl rfl rfl) rfl) ?_
  refine LRl.valC (r := .agg (opL kO11)) (fun _ => LVal.shTo (LVal.build hD rfl rfl rfl rfl rfl rfl rfl) rfl) ?_
  refine LRl.valC (r := .agg (ansL kA11)) (fun _ => LVal.shTo (LVal.build hD rfl rfl rfl rfl rfl rfl rfl) rfl) ?_
  refine LRl.valC (r := .agg (rowK (kO11, kA11))) (fun _ => LVal.shTo (LVal.build hD rfl rfl rfl rfl rfl rfl rfl) rfl) ?_
  refine LRl.valC (r := .one (.sl .sh (kO12.writes.map wrL))) (fun _ => LVal.to (LVal.makeZeros (n := 9) hD rfl rfl rfl rfl rfl rfl rfl rfl rfl (by omega) rfl) rfl) ?_
  refine LRl.valC (r := .agg (opL kO12)) (fun _ => LVal.shTo (LVal.build hD rfl rfl rfl rfl rfl rfl rfl) rfl) ?_
  refine LRl.valC (r := .agg (ansL kA12)) (fun _ => LVal.shTo (LVal.build hD rfl rfl rfl rfl rfl rfl rfl) rfl) ?_
  refine LRl.valC (r := .agg (rowK (kO12, kA12))) (fun _ => LVal.shTo (LVal.build hD rfl rfl rfl rfl rfl rfl rfl) rfl) ?_
  refine LRl.valC (r := .agg (opL kO13)) (fun _ => LVal.shTo (LVal.build hD rfl rfl rfl rfl rfl rfl rfl) rfl) ?_
  refine LRl.valC (r := .agg (ansL kA13)) (fun _ => LVal.shTo (LVal.build hD rfl rfl rfl rfl rfl rfl rfl) rfl) ?_
  refine LRl.valC (r := .agg (rowK (kO13, kA13))) (fun _ => LVal.shTo (LVal.build hD rfl rfl rfl rfl rfl rfl rfl) rfl) ?_
  refine LRl.valC (r := .agg (opL kO14)) (fun _ => LVal.shTo (LVal.build hD rfl rfl rfl rfl rfl rfl rfl) rfl) ?_
  refine LRl.valC (r := .agg (ansL kA14)) (fun _ => LVal.shTo (LVal.build hD rfl rfl rfl rfl rfl rfl rfl) rfl) ?_
  refine LRl.valC (r := .agg (rowK (kO14, kA14))) (fun _ => LVal.shTo (LVal.build hD rfl rfl rfl rfl rfl rfl rfl) rfl) ?_
  refine LRl.valA ?_
  refine LRl.valC (r := .one (sv k24)) (fun _ => LVal.to (LVal.sliceStr hD rfl rfl rfl rfl rfl rfl (by decide) (by decide) (by decide +kernel)) (by exact congrArg (fun z => TV.one (sv z)) e24)) ?_
  refine LRl.valA ?_
  refine LRl.valC (r := .one (sv k32)) (fun _ => LVal.to (LVal.sliceStr hD rfl rfl rfl rfl rfl rfl (by decide) (by decide) (by decide +kernel)) (by exact congrArg (fun z => TV.one (sv z)) e32)) ?_
  refine LRl.valC (r := .agg (opL kO15)) (fun _ => LVal.shTo (LVal.build hD rfl rfl rfl rfl rfl rfl rfl) rfl) ?_
  refine LRl.valC (r := .agg (ansL kA15)) (fun _ => LVal.shTo (LVal.build hD rfl rfl rfl rfl rfl rfl rfl) rfl) ?_
  refine LRl.valC (r := .agg (rowK (kO15, kA15))) (fun _ => LVal.shTo (LVal.build hD rfl rfl rfl rfl rfl rfl rfl) rfl) ?_
  refine LRl.valA ?_
  refine LRl.valC (r := .one (sv k25)) (fun _ => LVal.to (LVal.sliceStr hD rfl rfl rfl rfl rfl rfl (by decide) (by decide) (by decide +kernel)) (by exact congrArg (fun z => TV.one (sv z)) e25)) ?_
  refine LRl.valC (r := .agg (opL kO16)) (fun _ => LVal.shTo (LVal.build hD rfl rfl rfl rfl rfl rfl rfl) rfl) ?_
  refine LRl.valC (r := .agg (ansL kA16)) (fun _ => LVal.shTo (LVal.build hD rfl rfl rfl rfl rfl rfl rfl) rfl) ?_
  refine LRl.valC (r := .agg (rowK (kO16, kA16))) (fun _ => LVal.shTo (LVal.build hD rfl rfl rfl rfl rfl rfl rfl) rfl) ?_
  refine LRl.valA ?_
  refine LRl.valC (r := .one (sv k33)) (fun _ => LVal.to (LVal.sliceStr hD rfl rfl rfl rfl rfl rfl (by decide) (by decide) (by decide +kernel)) (by exact congrArg (fun z => TV.one (sv z)) e33)) ?_
  refine LRl.valC (r := .agg (opL kO17)) (fun _ => LVal.shTo (LVal.build hD rfl rfl rfl rfl rfl rfl rfl) rfl) ?_
  refine LRl.valC (r := .agg (ansL kA17)) (fun _ => LVal.shTo (LVal.build hD rfl rfl rfl rfl rfl rfl rfl) rfl) ?_
  refine LRl.valC (r := .agg (rowK (kO17, kA17))) (fun _ => LVal.shTo (LVal.build hD rfl rfl rfl rfl rfl rfl rfl) rfl) ?_
  refine LRl.valA ?_
  refine LRl.valC (r := .one (sv k24)) (fun _ => LVal.to (LVal.sliceStr hD rfl rfl rfl rfl rfl rfl (by decide) (by decide) (by decide +kernel)) (by exact congrArg (fun z => TV.one (sv z)) e24)) ?_
  refine LRl.valC (r := .agg (opL kO18)) (fun _ => LVal.shTo (LVal.build hD rfl rfl rfl rfl rfl rfl rfl) rfl) ?_
  refine LRl.valA ?_
  refine LRl.valC (r := .one (sv k32)) (fun _ => LVal.to (LVal.sliceStr hD rfl rfl rfl rfl rfl rfl (by decide) (by decide) (by decide +kernel)) (by exact congrArg (fun z => TV.one (sv z)) e32)) ?_
  refine LRl.valC (r := .agg (ansL kA18)) (fun _ => LVal.shTo (LVal.build hD rfl rfl rfl rfl rfl rfl rfl) rfl) ?_
  refine LRl.valC (r := .agg (rowK (kO18, kA18))) (fun _ => LVal.shTo (LVal.build hD rfl rfl rfl rfl rfl rfl rfl) rfl) ?_
  refine LRl.valC (r := .one (.sl .sh (kRows.map rowK))) (fun _ => LVal.to (LVal.buildSlice hD rfl rfl rfl rfl rfl rfl rfl rfl rfl rfl) rfl) ?_
  repeat (first | refine LRl.nil ?_ | refine LRl.valA ?_ | refine LRl.outA ?_ | refine LRl.whenA ?_ | refine LRl.pickA ?_)
  repeat (first | refine LOps.nil ?_ | refine andThen_normal ?_ | refine andThen_exit ?_ | refine andThen_ret ?_ | refine inBlock_normal ?_ | refine inBlock_ret ?_ | refine inBlock_here ?_ | refine inBlock_out rfl ?_ | refine LWp.seq ?_ | refine LWp.region ?_ | refine LWp.block ?_ | refine LWp.exit ?_ | refine LWp.ret ?_ | refine LWp.skip ?_ | refine LOps.valA ?_ | refine LOps.outA ?_ | refine LOps.whenA ?_ | refine LOps.pickA ?_ | refine LOps.storeA ?_)
  have hml : (kRows.map rowK).length = 19 := rfl
  repeat (first | refine LOps.nil ?_ | refine andThen_normal ?_ | refine andThen_exit ?_ | refine andThen_ret ?_ | refine inBlock_normal ?_ | refine inBlock_ret ?_ | refine inBlock_here ?_ | refine inBlock_out rfl ?_ | refine LWp.seq ?_ | refine LWp.region ?_ | refine LWp.block ?_ | refine LWp.exit ?_ | refine LWp.ret ?_ | refine LWp.skip ?_ | refine LOps.valA ?_ | refine LOps.outA ?_ | refine LOps.whenA ?_ | refine LOps.pickA ?_ | refine LOps.storeA ?_)
  refine LWp.loop (fun q T S' => ∃ (T' : Nat → TV) (j : Nat) (X : LV), j ≤ 19 ∧ q = 19 - j ∧ OM S' b X (kSt j) ∧ NewO S S' b X ∧ T = over T' [(1, ptr b), (3, .one (.sl .sh (kRows.map rowK))), (4, .one (iv (j : Nat)))]) 19 ?_ ?_
  · exact ⟨_, 0, X, by omega, by omega, m, nw, holds.over ⟨rfl, rfl, rfl, trivial⟩⟩
  clear m nw
  rintro q T S3 ⟨T', j, X, hj, rfl, m, nw, rfl⟩
  repeat (first | refine LOps.nil ?_ | refine andThen_normal ?_ | refine andThen_exit ?_ | refine andThen_ret ?_ | refine inBlock_normal ?_ | refine inBlock_ret ?_ | refine inBlock_here ?_ | refine inBlock_out rfl ?_ | refine LWp.seq ?_ | refine LWp.region ?_ | refine LWp.block ?_ | refine LWp.exit ?_ | refine LWp.ret ?_ | refine LWp.skip ?_ | refine LOps.valA ?_ | refine LOps.outA ?_ | refine LOps.whenA ?_ | refine LOps.pickA ?_ | refine LOps.storeA ?_)
  refine LWp.cond rfl (fun h => ?_) (fun h => ?_)
  · have hlt : j < kRows.length := by
      have h : decide ((j : Int) < ((kRows.map rowK).length : Int)) = true := h
      rw [hml, decide_eq_true_iff] at h
      rw [kRows_len]; omega
    have hlt2 : j < 19 := hlt
    obtain ⟨e1, e2⟩ := kAns ⟨j, hlt2⟩
    have e1 : doA (kSt j) kRows[j].1 = kRows[j].2 := e1
    have e2 : (kSt j).length ≤ 100 := e2
    have e3 := kStep hlt
    repeat (first | refine LOps.nil ?_ | refine andThen_normal ?_ | refine andThen_exit ?_ | refine andThen_ret ?_ | refine inBlock_normal ?_ | refine inBlock_ret ?_ | refine inBlock_here ?_ | refine inBlock_out rfl ?_ | refine LWp.seq ?_ | refine LWp.region ?_ | refine LWp.block ?_ | refine LWp.exit ?_ | refine LWp.ret ?_ | refine LWp.skip ?_ | refine LOps.valA ?_ | refine LOps.outA ?_ | refine LOps.whenA ?_ | refine LOps.pickA ?_ | refine LOps.storeA ?_)
    refine LWp.drawX (fun c => S.box c = none) [0, 1, 2, 3, 4, 5, 7, 8, 9, 10, 11, 6, 12] (by rw [hP]; rfl) rfl ?_
    repeat (first | refine LRl.nil ?_ | refine LRl.valA ?_ | refine LRl.outA ?_ | refine LRl.whenA ?_ | refine LRl.pickA ?_)
    refine LRl.act (LDo.callF (do_L hP (kSt j) (by omega) kRows[j].1 b X _ m) (by rw [hP]; exact Try.func16)) rfl rfl rfl rfl (by rintro _ S' ⟨_, X', _, mv⟩; exact .inl (hcell _ _ _ _ _ nw mv)) ?_
    rintro _ S4 ⟨rfl, X2, m2, mv2⟩
    replace nw := nw.mv mv2
    rw [e1]
    have m2 : OM S4 b X2 (kSt (j + 1)) := by rw [e3]; exact m2
    repeat (first | refine LRl.val (fun _ _ => LVal.to (LVal.neqAgg hD rfl rfl rfl rfl rfl (ea ()) rfl) (r' := .one (bv false)) (by exact congrArg (fun b => TV.one (bv b)) (ans_ne _))) rfl rfl rfl ?_ | refine LRl.nil ?_ | refine LRl.valA ?_ | refine LRl.outA ?_ | refine LRl.whenA ?_ | refine LRl.pickA ?_)
    repeat (first | refine LWp.condF rfl ?_ | refine LOps.nil ?_ | refine andThen_normal ?_ | refine andThen_exit ?_ | refine andThen_ret ?_ | refine inBlock_normal ?_ | refine inBlock_ret ?_ | refine inBlock_here ?_ | refine inBlock_out rfl ?_ | refine LWp.seq ?_ | refine LWp.region ?_ | refine LWp.block ?_ | refine LWp.exit ?_ | refine LWp.ret ?_ | refine LWp.skip ?_ | refine LOps.valA ?_ | refine LOps.outA ?_ | refine LOps.whenA ?_ | refine LOps.pickA ?_ | refine LOps.storeA ?_)
    exact ⟨19 - (j + 1), by omega, _, j + 1, X2, by omega, rfl, m2, nw, holds.over ⟨rfl, rfl, rfl, trivial⟩⟩
  · have hge : j = 19 := by
      have h : decide ((j : Int) < ((kRows.map rowK).length : Int)) = false := h
      rw [hml, decide_eq_false_iff_not] at h
      omega
    subst hge
    rw [kEnd] at m
    repeat (first | refine LOps.valH (LDo.toVal (LDo.callX (allV_L hP _ (by decide) b X S3 m) (by rw [hP]; exact Try.func14))) ?_ | refine LOps.whenC (LDo.toVal (LDo.callX (len_L hP _ b X S3 m) (by rw [hP]; exact Try.func20))) ?_ | refine LOps.nil ?_ | refine andThen_normal ?_ | refine andThen_exit ?_ | refine andThen_ret ?_ | refine inBlock_normal ?_ | refine inBlock_ret ?_ | refine inBlock_here ?_ | refine inBlock_out rfl ?_ | refine LWp.seq ?_ | refine LWp.region ?_ | refine LWp.block ?_ | refine LWp.exit ?_ | refine LWp.ret ?_ | refine LWp.skip ?_ | refine LOps.val (LVal.call rfl rfl (by rw [hP]; exact Try.func10) rfl (by decide) (cw)) rfl rfl rfl ?_ | refine LOps.whenC (LVal.call rfl rfl (by rw [hP]; exact Try.func10) rfl (by decide) (cw)) ?_ | refine LOps.valA ?_ | refine LOps.outA ?_ | refine LOps.whenA ?_ | refine LOps.pickA ?_ | refine LOps.storeA ?_)
    exact ⟨_, LRes.one rfl, rfl⟩
end Go.Proofs.Ytndcdmmmfplbbaa.LF

namespace Go.Proofs.Ytndcdmmmfplbbaa
open Go.RowKit LF
theorem omapKnown_walk (W : World)  :
    Calls Try.prog 7 #[] W fun e W' => e = .returned (.bool true) ∧ Below W.heap.size W W' := by
  exact law_calls (fun G S h => oknown_L h S) .nil
end Go.Proofs.Ytndcdmmmfplbbaa
