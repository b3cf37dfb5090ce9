/- strings.Repeat: the library's contract laid at this program, in plain words (gen_rep.py prints this text) -/
import Derived.Test.YtiimchhbbjlegaaProg
import Derived.Test.YtiimchhbbjlegaaLGb
import Derived.Shelf.Strings.Repeat
import Derived.Lib.Agree
import Derived.KernelRfl
set_option linter.unusedVariables false
set_option linter.unusedSimpArgs false
namespace Go.Proofs.Ytiimchhbbjlegaa
open Go.Shelf Go.RowKit

def repRen : Go.Shelf.Ren := ⟨fun | 105 => 23 | 212 => 27 | 99 => 28 | 165 => 29 | 166 => 30 | 170 => 31 | 169 => 32 | 263 => 34 | 264 => 35 | 206 => 36 | 240 => 37 | 241 => 38 | 276 => 40 | 277 => 41 | n => n, fun | 9 => 9 | 3 => 3 | 4 => 4 | 20 => 20 | 0 => 0 | 46 => 37 | 109 => 39 | 5 => 5 | 72 => 43 | 76 => 47 | 51 => 51 | 146 => 52 | 53 => 25 | 148 => 54 | 70 => 41 | 37 => 38 | 75 => 46 | 127 => 56 | 164 => 57 | 80 => 50 | n => n, fun  | n => n⟩
theorem repLays : Lays.n105 Try.prog repRen where
  mixed := by kernel_rfl
  f99 := Try.func28.trans (congrArg some (by kernel_rfl))
  f105 := Try.func23.trans (congrArg some (by kernel_rfl))
  f165 := Try.func29.trans (congrArg some (by kernel_rfl))
  f166 := Try.func30.trans (congrArg some (by kernel_rfl))
  f169 := Try.func32.trans (congrArg some (by kernel_rfl))
  f170 := Try.func31.trans (congrArg some (by kernel_rfl))
  f206 := Try.func36.trans (congrArg some (by kernel_rfl))
  f212 := Try.func27.trans (congrArg some (by kernel_rfl))
  f240 := Try.func37.trans (congrArg some (by kernel_rfl))
  f241 := Try.func38.trans (congrArg some (by kernel_rfl))
  f263 := Try.func34.trans (congrArg some (by kernel_rfl))
  f264 := Try.func35.trans (congrArg some (by kernel_rfl))
  f276 := Try.func40.trans (congrArg some (by kernel_rfl))
  f277 := Try.func41.trans (congrArg some (by kernel_rfl))
  t0 := Try.underlying0
  a0 := Try.isAgg0
  z0 := Try.sizeOf0
  v0 := Try.zeroValue0
  t3 := Try.underlying3
  a3 := Try.isAgg3
  z3 := Try.sizeOf3
  v3 := Try.zeroValue3
  t4 := Try.underlying4
  a4 := Try.isAgg4
  z4 := Try.sizeOf4
  v4 := Try.zeroValue4
  t5 := Try.underlying5
  a5 := Try.isAgg5
  z5 := Try.sizeOf5
  v5 := Try.zeroValue5
  t9 := Try.underlying9
  a9 := Try.isAgg9
  z9 := Try.sizeOf9
  v9 := Try.zeroValue9
  t20 := Try.underlying20
  a20 := Try.isAgg20
  z20 := Try.sizeOf20
  v20 := Try.zeroValue20
  t37 := Try.underlying38
  a37 := Try.isAgg38
  z37 := Try.sizeOf38
  v37 := Try.zeroValue38
  t46 := Try.underlying37
  a46 := Try.isAgg37
  z46 := Try.sizeOf37
  v46 := Try.zeroValue37
  t51 := Try.underlying51
  a51 := Try.isAgg51
  z51 := Try.sizeOf51
  v51 := Try.zeroValue51
  t53 := Try.underlying25
  a53 := Try.isAgg25
  z53 := Try.sizeOf25
  v53 := Try.zeroValue25
  t70 := Try.underlying41
  a70 := Try.isAgg41
  z70 := Try.sizeOf41
  v70 := Try.zeroValue41
  t72 := Try.underlying43
  a72 := Try.isAgg43
  z72 := Try.sizeOf43
  v72 := Try.zeroValue43
  t75 := Try.underlying46
  a75 := Try.isAgg46
  z75 := Try.sizeOf46
  v75 := Try.zeroValue46
  t76 := Try.underlying47
  a76 := Try.isAgg47
  z76 := Try.sizeOf47
  v76 := Try.zeroValue47
  t109 := Try.underlying39
  a109 := Try.isAgg39
  z109 := Try.sizeOf39
  v109 := Try.zeroValue39
  t127 := Try.underlying56
  a127 := Try.isAgg56
  z127 := Try.sizeOf56
  v127 := Try.zeroValue56
  t146 := Try.underlying52
  a146 := Try.isAgg52
  z146 := Try.sizeOf52
  v146 := Try.zeroValue52
  t148 := Try.underlying54
  a148 := Try.isAgg54
  z148 := Try.sizeOf54
  v148 := Try.zeroValue54
  t164 := Try.underlying57
  a164 := Try.isAgg57
  z164 := Try.sizeOf57
  v164 := Try.zeroValue57
theorem repExtra : Builder.Extra Try.prog repRen where
  sizeBuilder := by kernel_rfl
  liesBuilder := by kernel_rfl
  t5 := repLays.t5
  a5 := repLays.a5
  z5 := repLays.z5
  v5 := repLays.v5
  infoByte := by kernel_rfl
  cellsByte := by kernel_rfl
  sizeByte := by kernel_rfl
  neB5 := by decide
theorem repAt : repRen.f 105 = 23 := by kernel_rfl

/-- c copies of one byte -/
def rep1 (b : UInt8) (c : Nat) : ByteArray := ⟨(List.replicate c b).toArray⟩
theorem rep1_size (b : UInt8) (c : Nat) : (rep1 b c).size = c := by simp [rep1, ByteArray.size]
theorem repeat_any (b : UInt8) (c : Nat) (w : World) (hc : c ≤ 1000) :
    Calls Try.prog 23 #[.string ⟨#[b]⟩, .int .i64 c] w fun e w' => e = .returned (.string (rep1 b c)) ∧ Below w.heap.size w w' := by
  have h := Any.strings_Repeat repLays repExtra ⟨#[b]⟩ c w (by omega) (by show 1 * c ≤ _; omega)
  rw [repAt] at h
  refine h.mono fun e w' ⟨he, hw⟩ => ⟨?_, hw⟩
  rw [he]
  have e := Lib.repeatL_replicate b 1 c
  have e' : Lib.repeatL (ByteArray.mk #[b]).data.toList c = List.replicate c b := by simpa using e
  rw [e', rep1]
end Go.Proofs.Ytiimchhbbjlegaa
