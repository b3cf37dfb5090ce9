/- The walks of the laws KeysSlices, KeysNext. -/
import Derived.Test.YtiimchhbbjlegaaKeysL1
import Derived.OpenShut
namespace Go.Proofs.Ytiimchhbbjlegaa
open Go.RowKit
open Go.Lib (compareBytes)
set_option linter.unusedVariables false

theorem keysSlices_walk (s : ByteArray) (i n c : Int) (rs : s.size ≤ 140737488351232) (wi : (Lit.int .i64 i).wf = true) (wn : (Lit.int .u64 n).wf = true) (wc : (Lit.int .i64 c).wf = true) (w : World) :
    Calls Try.prog 4 #[.string s, .int .i64 i, .int .u64 n, .int .i64 c] w fun e w' => e = .returned (.bool true) ∧ Below w.heap.size w w' := by
  have hn := bounds_u64 wn
  obtain ⟨m, rfl⟩ : ∃ m : Nat, n = m := ⟨n.toNat, by omega⟩
  have hm : m < 18446744073709551616 := by omega
  clear wn wi wc hn
  go_enter Try.func4, Try.ntmps4
  go_wp2_with fail
  refine (slice_any s i _ rs).mono ?_
  rintro e w' ⟨rfl, rfl⟩
  go_wp2_with fail
  refine (rslice_any s i _ rs).mono ?_
  rintro e w' ⟨rfl, rfl⟩
  go_wp2_with fail
  refine (awake_any _).mono ?_
  rintro e w' ⟨rfl, rfl⟩
  go_wp2_with fail
  refine (unslice_any m c _ hm).mono ?_
  rintro e w' ⟨rfl, hb1⟩
  go_wp2_with fail
  refine (runslice_any m c _ hm).mono ?_
  rintro e w' ⟨rfl, hb2⟩
  go_wp2
  go_ret
  exact ⟨rfl, hb1.trans (hb2.mono hb1.size)⟩
end Go.Proofs.Ytiimchhbbjlegaa
