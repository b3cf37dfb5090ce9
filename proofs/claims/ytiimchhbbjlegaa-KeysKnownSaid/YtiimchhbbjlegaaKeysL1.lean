/- What the walks of the laws of layer 1 (keys) share: 'awake', worlds that are still. -/
import Derived.Test.YtiimchhbbjlegaaKeysR
import Derived.Test.YtiimchhbbjlegaaKeysU
import Derived.Deep.RegionWith
set_option linter.unusedVariables false
set_option linter.unusedSimpArgs false
namespace Go.Proofs.Ytiimchhbbjlegaa
open Go.RowKit
open Go.Lib (compareBytes)
set_option linter.unusedVariables false

theorem awake_any (w : World) :
    Calls Try.prog 11 #[] w fun e w' => e = .returned (.bool true) ∧ w = w' := by
  go_enter Try.func11, Try.ntmps11
  go_wp2_with fail
  refine (slice_any _ _ _ (by decide)).mono ?_
  rintro e w' ⟨rfl, rfl⟩
  have e1 : sliceN [97, 98] 0 = 7017171169396654080 := by decide
  have e2 : sliceC [97, 98] 0 = 2 := by decide
  simp only [e1, e2]
  go_wp2_with fail
  refine (compare_any _ _ _).mono ?_
  rintro e w' ⟨rfl, rfl⟩
  have e3 : compareBytes [97] [97, 98] = -1 := by decide
  simp only [e3]
  go_wp2_with fail
  refine (compare_any _ _ _).mono ?_
  rintro e w' ⟨rfl, rfl⟩
  have e4 : compareBytes [98] [97, 98] = 1 := by decide
  simp only [e4]
  go_wp2
  go_ret
  exact ⟨rfl, rfl⟩

/-- The world is as it was, but for draws. -/
def Still (w w' : World) : Prop := ∃ n, w' = w.drewN n
theorem Still.below {w w' : World} (h : Still w w') (B : Nat) : Below B w w' := by
  obtain ⟨n, rfl⟩ := h; exact below_drewN (Below.refl _ _) n
theorem Still.refl (w : World) : Still w w := ⟨0, rfl⟩
theorem Still.trans {a b c : World} (h : Still a b) (k : Still b c) : Still a c := by
  obtain ⟨n, rfl⟩ := h; obtain ⟨m, rfl⟩ := k; exact ⟨n + m, World.drewN_drewN _ _ _⟩
theorem Still.drewN {a b : World} (h : Still a b) (n : Nat) : Still a (b.drewN n) := h.trans ⟨n, rfl⟩

theorem common_at (a b : ByteArray) (N : Nat) (hN : com a.data.toList b.data.toList = N) (ha : a.size ≤ maxLen) (hb : b.size ≤ maxLen) (w : World) :
    Calls Try.prog 12 #[.string a, .string b] w fun e w' => e = .returned (.int .i64 N) ∧ Still w w' := by
  subst hN; exact common_any a b w ha hb
theorem Calls.quiet_still {f : FuncId} {args : Array Value} {w : World} {n : Nat} {v : Value}
    (h : Calls Try.prog f args (w.drewN n) fun e w' => e = .returned v ∧ Still (w.drewN n) w') : Calls Try.prog f args (w.drewN n) fun e w'' => e = .returned v ∧ ∃ m, w'' = w.drewN m :=
  h.mono fun _ _ ⟨he, m, hm⟩ => ⟨he, n + m, by rw [hm, World.drewN_drewN]⟩

theorem ext_eq {a b : ByteArray} {N : Nat} (h : N ≤ com a.data.toList b.data.toList) : ((a.extract 0 N).toList == (b.extract 0 N).toList) = true := by
  rw [Lib.toList_data, Lib.toList_data, ext_list, ext_list, com_take _ _ _ h]; simp

end Go.Proofs.Ytiimchhbbjlegaa
