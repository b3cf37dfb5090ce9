/- Bytes searched in a sorted row; the first free place. -/
import Derived.Test.YtinbibeapooghaaLAa
import Derived.Test.YtinbibeapooghaaLGc
set_option linter.unusedVariables false
set_option linter.unusedSimpArgs false
namespace Go.Proofs.Ytinbibeapooghaa.LF
open Go.RowKit
set_option linter.unusedVariables false
attribute [local irreducible] andThen inBlock LWp LOps LCalls

theorem nanC_F {G : Ctx} (hP : G.P = Try.prog) (x : Int) : LFun G 67 [.one (uv x)] (.one (bv false)) := LFun.of fun S => by
  have hD : TabOK G.P D := by rw [hP]; exact hD0
  refine LCalls.enter (fn := Try.f67) (by rw [hP]; exact Try.func67) rfl rfl ?_
  repeat (first | refine LOps.nil ?_ | refine andThen_normal ?_ | refine andThen_exit ?_ | refine andThen_ret ?_ | refine inBlock_normal ?_ | refine inBlock_ret ?_ | refine inBlock_here ?_ | refine inBlock_out rfl ?_ | refine LWp.seq ?_ | refine LWp.region ?_ | refine LWp.block ?_ | refine LWp.exit ?_ | refine LWp.ret ?_ | refine LWp.skip ?_ | refine LOps.valA ?_ | refine LOps.outA ?_ | refine LOps.whenA ?_ | refine LOps.pickA ?_ | refine LOps.storeA ?_)
  exact ⟨_, LRes.one rfl, rfl, .refl _⟩
theorem nanS_F {G : Ctx} (hP : G.P = Try.prog) (x : Int) : LFun G 62 [.one (uv x)] (.one (bv false)) := LFun.of fun S => by
  have hD : TabOK G.P D := by rw [hP]; exact hD0
  refine LCalls.enter (fn := Try.f62) (by rw [hP]; exact Try.func62) rfl rfl ?_
  repeat (first | refine LOps.nil ?_ | refine andThen_normal ?_ | refine andThen_exit ?_ | refine andThen_ret ?_ | refine inBlock_normal ?_ | refine inBlock_ret ?_ | refine inBlock_here ?_ | refine inBlock_out rfl ?_ | refine LWp.seq ?_ | refine LWp.region ?_ | refine LWp.block ?_ | refine LWp.exit ?_ | refine LWp.ret ?_ | refine LWp.skip ?_ | refine LOps.valA ?_ | refine LOps.outA ?_ | refine LOps.whenA ?_ | refine LOps.pickA ?_ | refine LOps.storeA ?_)
  exact ⟨_, LRes.one rfl, rfl, .refl _⟩
theorem less_F {G : Ctx} (hP : G.P = Try.prog) (x y : Int) : LFun G 61 [.one (uv x), .one (uv y)] (.one (bv (decide (x < y)))) := LFun.of fun S => by
  have hD : TabOK G.P D := by rw [hP]; exact hD0
  refine LCalls.enter (fn := Try.f61) (by rw [hP]; exact Try.func61) rfl rfl ?_
  repeat (first | refine LOps.nil ?_ | refine andThen_normal ?_ | refine andThen_exit ?_ | refine andThen_ret ?_ | refine inBlock_normal ?_ | refine inBlock_ret ?_ | refine inBlock_here ?_ | refine inBlock_out rfl ?_ | refine LWp.seq ?_ | refine LWp.region ?_ | refine LWp.block ?_ | refine LWp.exit ?_ | refine LWp.ret ?_ | refine LWp.skip ?_ | refine LOps.val (LVal.call rfl rfl (by rw [hP]; exact Try.func67) rfl (by decide) (nanC_F hP _)) rfl rfl rfl ?_ | refine LOps.whenC (LVal.call rfl rfl (by rw [hP]; exact Try.func67) rfl (by decide) (nanC_F hP _)) ?_ | refine LOps.valA ?_ | refine LOps.outA ?_ | refine LOps.whenA ?_ | refine LOps.pickA ?_ | refine LOps.storeA ?_)
  refine ⟨_, LRes.one rfl, ?_, .refl _⟩
  show TV.one (bv ((false && !false) || decide (x < y))) = _
  simp

def keyL {α : Type} (p : Nat × α) : List LV := [uv (p.1 : Nat)]
theorem keyL_len {α : Type} (p : Nat × α) : (keyL p).length = 1 := rfl

set_option maxHeartbeats 4000000 in
theorem bs_F {α : Type} [Inhabited α] {G : Ctx} (hP : G.P = Try.prog) (l : Kv α) (hr : KS l) (b : Nat) : LFun G 56 [.one (.sl .sh (l.map keyL)), .one (uv (b : Nat))] (.tup [.one (iv (posK l b : Nat)), .one (bv (hasK l b))]) := LFun.of fun S => by
  have hD : TabOK G.P D := by rw [hP]; exact hD0
  have hl := hr.len
  have hml : (l.map keyL).length = l.length := List.length_map ..
  refine LCalls.enter (fn := Try.f56) (by rw [hP]; exact Try.func56) rfl rfl ?_
  repeat (first | refine LWp.seq (LWp.cut 3 (fun T' S' => S' = S ∧ ∃ T'', T' = over T'' [(0, .one (.sl .sh (l.map keyL))), (1, .one (uv (b : Nat))), (6, .one (iv (l.length : Nat))), (7, .one (iv (posK l b : Nat)))]) rfl ?_ ?_) | refine LOps.nil ?_ | refine andThen_normal ?_ | refine andThen_exit ?_ | refine andThen_ret ?_ | refine inBlock_normal ?_ | refine inBlock_ret ?_ | refine inBlock_here ?_ | refine inBlock_out rfl ?_ | refine LWp.seq ?_ | refine LWp.region ?_ | refine LWp.block ?_ | refine LWp.exit ?_ | refine LWp.ret ?_ | refine LWp.skip ?_ | refine LOps.valA ?_ | refine LOps.outA ?_ | refine LOps.whenA ?_ | refine LOps.pickA ?_ | refine LOps.storeA ?_)
  · refine LWp.loop (fun k T S' => S' = S ∧ ∃ (T' : Nat → TV) (i j : Nat), i ≤ j ∧ j ≤ l.length ∧ k = j - i ∧ (∀ (q : Nat) (hq : q < i) (hl : q < l.length), l[q].1 < b) ∧ (∀ (q : Nat) (hq : j ≤ q) (hl : q < l.length), ¬ l[q].1 < b) ∧
      T = over T' [(0, .one (.sl .sh (l.map keyL))), (1, .one (uv (b : Nat))), (6, .one (iv (l.length : Nat))), (7, .one (iv (i : Nat))), (8, .one (iv (j : Nat)))]) l.length ?_ ?_
    · exact ⟨rfl, _, 0, l.length, by omega, by omega, rfl, fun q hq => by omega, fun q hq hl => by omega, holds.over ⟨rfl, rfl, by rw [← hml]; rfl, rfl, by rw [← hml]; rfl, trivial⟩⟩
    rintro k T S1 ⟨rfl, T', i, j, hij, hjl, rfl, hlo, hhi, rfl⟩
    repeat (first | refine LOps.nil ?_ | refine andThen_normal ?_ | refine andThen_exit ?_ | refine andThen_ret ?_ | refine inBlock_normal ?_ | refine inBlock_ret ?_ | refine inBlock_here ?_ | refine inBlock_out rfl ?_ | refine LWp.seq ?_ | refine LWp.region ?_ | refine LWp.block ?_ | refine LWp.exit ?_ | refine LWp.ret ?_ | refine LWp.skip ?_ | refine LOps.valA ?_ | refine LOps.outA ?_ | refine LOps.whenA ?_ | refine LOps.pickA ?_ | refine LOps.storeA ?_)
    refine LWp.cond rfl (fun h => ?_) (fun h => ?_)
    · have hlt : i < j := by simp at h; omega
      have hmid : (i + j) / 2 < l.length := by omega
      have e1 : (((i : Int) + (j : Int)) / 2 ^ (1 : Int).toNat) = (((i + j) / 2 : Nat) : Int) := by
        show ((i : Int) + (j : Int)) / 2 = _
        omega
      repeat (first | refine LOps.val (r := .one (.v (.int .u64 (((i + j) / 2 : Nat) : Int)))) (LVal.to (LVal.shr64 rfl rfl rfl (by omega)) (by rw [e1])) rfl rfl rfl ?_ | refine LOps.nil ?_ | refine andThen_normal ?_ | refine andThen_exit ?_ | refine andThen_ret ?_ | refine inBlock_normal ?_ | refine inBlock_ret ?_ | refine inBlock_here ?_ | refine inBlock_out rfl ?_ | refine LWp.seq ?_ | refine LWp.region ?_ | refine LWp.block ?_ | refine LWp.exit ?_ | refine LWp.ret ?_ | refine LWp.skip ?_ | refine LOps.val (LVal.call rfl rfl (by rw [hP]; exact Try.func61) rfl (by decide) (less_F hP _ _)) rfl rfl rfl ?_ | refine LOps.whenC (LVal.call rfl rfl (by rw [hP]; exact Try.func61) rfl (by decide) (less_F hP _ _)) ?_ | refine LOps.valA ?_ | refine LOps.outA ?_ | refine LOps.whenA ?_ | refine LOps.pickA ?_ | refine LOps.storeA ?_)
      refine LWp.cond rfl (fun h => ?_) (fun h => ?_)
      · have hb : l[(i + j) / 2].1 < b := by simpa using h
        repeat (first | refine LOps.nil ?_ | refine andThen_normal ?_ | refine andThen_exit ?_ | refine andThen_ret ?_ | refine inBlock_normal ?_ | refine inBlock_ret ?_ | refine inBlock_here ?_ | refine inBlock_out rfl ?_ | refine LWp.seq ?_ | refine LWp.region ?_ | refine LWp.block ?_ | refine LWp.exit ?_ | refine LWp.ret ?_ | refine LWp.skip ?_ | refine LOps.valA ?_ | refine LOps.outA ?_ | refine LOps.whenA ?_ | refine LOps.pickA ?_ | refine LOps.storeA ?_)
        refine ⟨j - ((i + j) / 2 + 1), by omega, rfl, _, (i + j) / 2 + 1, j, by omega, hjl, rfl, fun q hq hl => ?_, hhi, holds.over ⟨rfl, rfl, rfl, rfl, rfl, trivial⟩⟩
        rcases Nat.lt_or_ge q ((i + j) / 2) with h2 | h2
        · have := hr.at h2 hmid; omega
        · obtain rfl : q = (i + j) / 2 := by omega
          exact hb
      · have hb : ¬ l[(i + j) / 2].1 < b := by simpa using h
        repeat (first | refine LOps.nil ?_ | refine andThen_normal ?_ | refine andThen_exit ?_ | refine andThen_ret ?_ | refine inBlock_normal ?_ | refine inBlock_ret ?_ | refine inBlock_here ?_ | refine inBlock_out rfl ?_ | refine LWp.seq ?_ | refine LWp.region ?_ | refine LWp.block ?_ | refine LWp.exit ?_ | refine LWp.ret ?_ | refine LWp.skip ?_ | refine LOps.valA ?_ | refine LOps.outA ?_ | refine LOps.whenA ?_ | refine LOps.pickA ?_ | refine LOps.storeA ?_)
        refine ⟨(i + j) / 2 - i, by omega, rfl, _, i, (i + j) / 2, by omega, by omega, rfl, hlo, fun q hq hl => ?_, holds.over ⟨rfl, rfl, rfl, rfl, rfl, trivial⟩⟩
        rcases Nat.lt_or_ge ((i + j) / 2) q with h2 | h2
        · have := hr.at h2 hl; omega
        · obtain rfl : q = (i + j) / 2 := by omega
          exact hb
    · have hge : i = j := by simp at h; omega
      subst hge
      have e : posK l b = i := posK_of hjl (fun q hq => hlo q hq (by omega)) (fun h => hhi i (Nat.le_refl _) h)
      repeat (first | refine LOps.nil ?_ | refine andThen_normal ?_ | refine andThen_exit ?_ | refine andThen_ret ?_ | refine inBlock_normal ?_ | refine inBlock_ret ?_ | refine inBlock_here ?_ | refine inBlock_out rfl ?_ | refine LWp.seq ?_ | refine LWp.region ?_ | refine LWp.block ?_ | refine LWp.exit ?_ | refine LWp.ret ?_ | refine LWp.skip ?_ | refine LOps.valA ?_ | refine LOps.outA ?_ | refine LOps.whenA ?_ | refine LOps.pickA ?_ | refine LOps.storeA ?_)
      exact ⟨rfl, _, holds.over ⟨rfl, rfl, rfl, by rw [e]; rfl, trivial⟩⟩
  rintro T' S ⟨rfl, T'', rfl⟩
  have hle := posK_le l b
  repeat (first | refine LOps.nil ?_ | refine andThen_normal ?_ | refine andThen_exit ?_ | refine andThen_ret ?_ | refine inBlock_normal ?_ | refine inBlock_ret ?_ | refine inBlock_here ?_ | refine inBlock_out rfl ?_ | refine LWp.seq ?_ | refine LWp.region ?_ | refine LWp.block ?_ | refine LWp.exit ?_ | refine LWp.ret ?_ | refine LWp.skip ?_ | refine LOps.val (LVal.call rfl rfl (by rw [hP]; exact Try.func62) rfl (by decide) (nanS_F hP _)) rfl rfl rfl ?_ | refine LOps.whenC (LVal.call rfl rfl (by rw [hP]; exact Try.func62) rfl (by decide) (nanS_F hP _)) ?_ | refine LOps.valA ?_ | refine LOps.outA ?_ | refine LOps.whenA ?_ | refine LOps.pickA ?_ | refine LOps.storeA ?_)
  refine ⟨_, LRes.two rfl, ?_, .refl _⟩
  have e : (decide (((posK l b : Nat) : Int) < ((l.length : Nat) : Int)) && (((((l.getD (posK l b) default).1 : Nat) : Int) == ((b : Nat) : Int)) || (false && false))) = hasK l b := by
    cases hk : hasK l b with
    | true =>
      obtain ⟨h1, h2, _⟩ := hasK_at hr hk
      have : l.getD (posK l b) default = l[posK l b] := by rw [List.getD_eq_getElem?_getD, List.getElem?_eq_getElem h1]; rfl
      rw [this, h2]; simp [h1]
    | false =>
      by_cases h1 : posK l b < l.length
      · have : l.getD (posK l b) default = l[posK l b] := by rw [List.getD_eq_getElem?_getD, List.getElem?_eq_getElem h1]; rfl
        have h2 := hasK_not hk _ h1
        rw [this]; simp; intro _; omega
      · simp; omega
  rw [← e]; rfl

set_option maxHeartbeats 4000000 in
theorem free_F {G : Ctx} (hP : G.P = Try.prog) (us : List Bool) (hl : us.length ≤ 1000) (i : Nat) (hi : i < us.length) (h1 : us[i] = false) (h2 : ∀ (j : Nat) (hj : j < i), us[j]'(by omega) = true) :
    LFun G 76 [.one (.sl .sh (us.map fun u => [bv u])), .one (bv false)] (.one (iv (i : Nat))) := LFun.of fun S => by
  have hD : TabOK G.P D := by rw [hP]; exact hD0
  refine LCalls.enter (fn := Try.f76) (by rw [hP]; exact Try.func76) rfl rfl ?_
  repeat (first | refine LOps.nil ?_ | refine andThen_normal ?_ | refine andThen_exit ?_ | refine andThen_ret ?_ | refine inBlock_normal ?_ | refine inBlock_ret ?_ | refine inBlock_here ?_ | refine inBlock_out rfl ?_ | refine LWp.seq ?_ | refine LWp.region ?_ | refine LWp.block ?_ | refine LWp.exit ?_ | refine LWp.ret ?_ | refine LWp.skip ?_ | refine LOps.valA ?_ | refine LOps.outA ?_ | refine LOps.whenA ?_ | refine LOps.pickA ?_ | refine LOps.storeA ?_)
  refine LWp.loop (fun m T S' => S' = S ∧ ∃ T' j, j ≤ i ∧ m = us.length - j ∧ T = over T' [(0, .one (.sl .sh (us.map fun u => [bv u]))), (1, .one (bv false)), (7, .one (iv (us.length : Nat))), (8, .one (iv (j : Nat)))]) us.length ?_ ?_
  · exact ⟨rfl, _, 0, by omega, by omega, holds.over ⟨rfl, rfl, by show TV.one (iv (((us.map fun u => [bv u]).length : Nat) : Int)) = _; rw [List.length_map], rfl, trivial⟩⟩
  rintro m T S' ⟨rfl, T', j, hj, rfl, rfl⟩
  have hjl : j < us.length := by omega
  repeat (first | refine LOps.nil ?_ | refine andThen_normal ?_ | refine andThen_exit ?_ | refine andThen_ret ?_ | refine inBlock_normal ?_ | refine inBlock_ret ?_ | refine inBlock_here ?_ | refine inBlock_out rfl ?_ | refine LWp.seq ?_ | refine LWp.region ?_ | refine LWp.block ?_ | refine LWp.exit ?_ | refine LWp.ret ?_ | refine LWp.skip ?_ | refine LOps.valA ?_ | refine LOps.outA ?_ | refine LOps.whenA ?_ | refine LOps.pickA ?_ | refine LOps.storeA ?_)
  refine LWp.cond rfl (fun h => ?_) (fun h => ?_)
  · repeat (first | refine LOps.nil ?_ | refine andThen_normal ?_ | refine andThen_exit ?_ | refine andThen_ret ?_ | refine inBlock_normal ?_ | refine inBlock_ret ?_ | refine inBlock_here ?_ | refine inBlock_out rfl ?_ | refine LWp.seq ?_ | refine LWp.region ?_ | refine LWp.block ?_ | refine LWp.exit ?_ | refine LWp.ret ?_ | refine LWp.skip ?_ | refine LOps.valA ?_ | refine LOps.outA ?_ | refine LOps.whenA ?_ | refine LOps.pickA ?_ | refine LOps.storeA ?_)
    refine LWp.cond rfl (fun h => ?_) (fun h => ?_)
    · have hu : us[j] = false := by simpa using h
      have : j = i := by
        rcases Nat.lt_or_ge j i with h3 | h3
        · rw [h2 j h3] at hu; cases hu
        · omega
      subst this
      repeat (first | refine LOps.nil ?_ | refine andThen_normal ?_ | refine andThen_exit ?_ | refine andThen_ret ?_ | refine inBlock_normal ?_ | refine inBlock_ret ?_ | refine inBlock_here ?_ | refine inBlock_out rfl ?_ | refine LWp.seq ?_ | refine LWp.region ?_ | refine LWp.block ?_ | refine LWp.exit ?_ | refine LWp.ret ?_ | refine LWp.skip ?_ | refine LOps.valA ?_ | refine LOps.outA ?_ | refine LOps.whenA ?_ | refine LOps.pickA ?_ | refine LOps.storeA ?_)
      exact ⟨_, LRes.one rfl, rfl, .refl _⟩
    · have hu : us[j] ≠ false := by simpa using h
      have hji : j ≠ i := fun e => by subst e; exact hu h1
      repeat (first | refine LOps.nil ?_ | refine andThen_normal ?_ | refine andThen_exit ?_ | refine andThen_ret ?_ | refine inBlock_normal ?_ | refine inBlock_ret ?_ | refine inBlock_here ?_ | refine inBlock_out rfl ?_ | refine LWp.seq ?_ | refine LWp.region ?_ | refine LWp.block ?_ | refine LWp.exit ?_ | refine LWp.ret ?_ | refine LWp.skip ?_ | refine LOps.valA ?_ | refine LOps.outA ?_ | refine LOps.whenA ?_ | refine LOps.pickA ?_ | refine LOps.storeA ?_)
      exact ⟨us.length - (j + 1), by omega, rfl, _, j + 1, by omega, rfl, holds.over ⟨rfl, rfl, rfl, rfl, trivial⟩⟩
  · simp at h; omega
end Go.Proofs.Ytinbibeapooghaa.LF
