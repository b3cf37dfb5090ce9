/- The document's Less over the frame. (Printed by gen_less.sh.) -/
import Derived.Test.YtkjbdldjfjkneaaLKa
set_option linter.unusedVariables false
set_option linter.unusedSimpArgs false
namespace Go.Proofs.Ytkjbdldjfjkneaa.LF
open Go.RowKit
set_option linter.unusedVariables false

theorem ba_len (a : ByteArray) : a.data.toList.length = a.size := by simp
theorem ba_get (a : ByteArray) (k : Nat) (h : k < a.size) : a.data.toList[k]? = some a[k] := by
  simp only [Array.getElem?_toList]
  exact getElem?_pos a.data k h
theorem part_lt {a b : ByteArray} {k : Nat} (ha : k < a.size) (hb : k < b.size) (hk : k ≤ com a.data.toList b.data.toList) (h : a.data.toList[k]? ≠ b.data.toList[k]?) :
    ltS a b = decide (a[k].toNat < b[k].toNat) := by
  have hc : com a.data.toList b.data.toList = k := com_eq _ _ k (by simpa using Nat.le_of_lt ha) (by simpa using Nat.le_of_lt hb) (fun i hi => com_get _ _ i (by omega)) (.inr (.inr h))
  rw [Bool.eq_iff_iff, ltS, ltB, decide_eq_true_iff, decide_eq_true_iff, lt_com, hc, ba_get a k ha, ba_get b k hb, ba_len, ba_len]
  simp only [Option.getD_some, UInt8.lt_iff_toNat_lt]
  omega
theorem end_lt {a b : ByteArray} {k : Nat} (hk : k ≤ com a.data.toList b.data.toList) (h : a.size ≤ k ∨ b.size ≤ k) :
    ltS a b = decide (a.size < b.size) := by
  have h1 := com_le_l a.data.toList b.data.toList
  have h2 := com_le_r a.data.toList b.data.toList
  rw [ba_len] at h1 h2
  rw [Bool.eq_iff_iff, ltS, ltB, decide_eq_true_iff, decide_eq_true_iff, lt_com, ba_len, ba_len]
  constructor
  · rintro ⟨h3, _⟩; omega
  · intro h3; exact ⟨by omega, .inl (by omega)⟩
theorem ba_at {a : ByteArray} {k : Nat} (h : k < a.size) : a[((k : Nat) : Int).toNat]? = some a[k] := by
  rw [Int.toNat_natCast]; exact getElem?_pos a k h

set_option maxHeartbeats 4000000 in
theorem less_F {G : Ctx} (hP : G.P = Try.prog) (a b : ByteArray) (ha : a.size ≤ 9223372036854775806) (hb : b.size ≤ 9223372036854775806) : LFun G 17 [.one (sv a), .one (sv b)] (.one (bv (ltS a b))) := LFun.of fun S => by
  have hD : TabOK G.P D := by rw [hP]; exact hD0
  refine LCalls.enter (fn := Try.f17) (by rw [hP]; exact Try.func17) rfl rfl ?_
  repeat (first | refine LOps.nil ?_ | refine andThen_normal ?_ | refine andThen_exit ?_ | refine andThen_ret ?_ | refine inBlock_normal ?_ | refine inBlock_ret ?_ | refine inBlock_here ?_ | refine inBlock_out rfl ?_ | refine LWp.seq ?_ | refine LWp.region ?_ | refine LWp.block ?_ | refine LWp.exit ?_ | refine LWp.ret ?_ | refine LWp.skip ?_ | refine LOps.valA ?_ | refine LOps.outA ?_ | refine LOps.whenA ?_ | refine LOps.pickA ?_ | refine LOps.storeA ?_)
  refine LWp.loop (fun m T S' => S' = S ∧ ∃ (T' : Nat → TV) (k : Nat), k ≤ a.size ∧ k ≤ b.size ∧ k ≤ com a.data.toList b.data.toList ∧ m = a.size - k ∧ T = over T' [(0, .one (sv a)), (1, .one (sv b)), (5, .one (iv (k : Nat)))]) a.size ?_ ?_
  · exact ⟨rfl, _, 0, by omega, by omega, by omega, rfl, holds.over ⟨rfl, rfl, rfl, trivial⟩⟩
  rintro m T S' ⟨rfl, T', k, hka, hkb, hkc, rfl, rfl⟩
  repeat (first | refine LOps.nil ?_ | refine andThen_normal ?_ | refine andThen_exit ?_ | refine andThen_ret ?_ | refine inBlock_normal ?_ | refine inBlock_ret ?_ | refine inBlock_here ?_ | refine inBlock_out rfl ?_ | refine LWp.seq ?_ | refine LWp.region ?_ | refine LWp.block ?_ | refine LWp.exit ?_ | refine LWp.ret ?_ | refine LWp.skip ?_ | refine LOps.valA ?_ | refine LOps.outA ?_ | refine LOps.whenA ?_ | refine LOps.pickA ?_ | refine LOps.storeA ?_)
  refine LWp.cond rfl (fun h => ?_) (fun h => ?_)
  · have h : (decide ((k : Int) < (a.size : Int)) && decide ((k : Int) < (b.size : Int))) = true := h
    rw [Bool.and_eq_true, decide_eq_true_eq, decide_eq_true_eq] at h
    have h1 : k < a.size := by omega
    have h2 : k < b.size := by omega
    have i1 := ba_at h1
    have i2 := ba_at h2
    repeat (first | refine LOps.nil ?_ | refine andThen_normal ?_ | refine andThen_exit ?_ | refine andThen_ret ?_ | refine inBlock_normal ?_ | refine inBlock_ret ?_ | refine inBlock_here ?_ | refine inBlock_out rfl ?_ | refine LWp.seq ?_ | refine LWp.region ?_ | refine LWp.block ?_ | refine LWp.exit ?_ | refine LWp.ret ?_ | refine LWp.skip ?_ | refine LOps.valA ?_ | refine LOps.outA ?_ | refine LOps.whenA ?_ | refine LOps.pickA ?_ | refine LOps.storeA ?_)
    refine LWp.drawL [0, 1, 2, 3, 4, 5, 6] (by rw [hP]; rfl) rfl ?_
    repeat (first | refine LRl.val (fun _ _ => LVal.indexStr hD rfl rfl rfl rfl rfl (by omega) (by first | exact i1 | exact i2)) rfl rfl rfl ?_ | refine LRl.nil ?_ | refine LRl.valA ?_ | refine LRl.outA ?_ | refine LRl.whenA ?_ | refine LRl.pickA ?_)
    repeat (first | refine LOps.nil ?_ | refine andThen_normal ?_ | refine andThen_exit ?_ | refine andThen_ret ?_ | refine inBlock_normal ?_ | refine inBlock_ret ?_ | refine inBlock_here ?_ | refine inBlock_out rfl ?_ | refine LWp.seq ?_ | refine LWp.region ?_ | refine LWp.block ?_ | refine LWp.exit ?_ | refine LWp.ret ?_ | refine LWp.skip ?_ | refine LOps.valA ?_ | refine LOps.outA ?_ | refine LOps.whenA ?_ | refine LOps.pickA ?_ | refine LOps.storeA ?_)
    refine LWp.cond rfl (fun h => ?_) (fun h => ?_)
    · have h : (!((a[k].toNat : Int) == (b[k].toNat : Int))) = true := h
      have hne : a.data.toList[k]? ≠ b.data.toList[k]? := by
        rw [ba_get a k h1, ba_get b k h2]
        intro e
        rw [Option.some.inj e] at h
        simp at h
      have hp := part_lt h1 h2 hkc hne
      repeat (first | refine LOps.nil ?_ | refine andThen_normal ?_ | refine andThen_exit ?_ | refine andThen_ret ?_ | refine inBlock_normal ?_ | refine inBlock_ret ?_ | refine inBlock_here ?_ | refine inBlock_out rfl ?_ | refine LWp.seq ?_ | refine LWp.region ?_ | refine LWp.block ?_ | refine LWp.exit ?_ | refine LWp.ret ?_ | refine LWp.skip ?_ | refine LOps.valA ?_ | refine LOps.outA ?_ | refine LOps.whenA ?_ | refine LOps.pickA ?_ | refine LOps.storeA ?_)
      refine LWp.drawL [0, 1, 2, 3, 4, 5, 6, 7] (by rw [hP]; rfl) rfl ?_
      repeat (first | refine LRl.val (fun _ _ => LVal.indexStr hD rfl rfl rfl rfl rfl (by omega) (by first | exact i1 | exact i2)) rfl rfl rfl ?_ | refine LRl.nil ?_ | refine LRl.valA ?_ | refine LRl.outA ?_ | refine LRl.whenA ?_ | refine LRl.pickA ?_)
      repeat (first | refine LOps.nil ?_ | refine andThen_normal ?_ | refine andThen_exit ?_ | refine andThen_ret ?_ | refine inBlock_normal ?_ | refine inBlock_ret ?_ | refine inBlock_here ?_ | refine inBlock_out rfl ?_ | refine LWp.seq ?_ | refine LWp.region ?_ | refine LWp.block ?_ | refine LWp.exit ?_ | refine LWp.ret ?_ | refine LWp.skip ?_ | refine LOps.valA ?_ | refine LOps.outA ?_ | refine LOps.whenA ?_ | refine LOps.pickA ?_ | refine LOps.storeA ?_)
      refine ⟨_, LRes.one rfl, ?_, .refl _⟩
      show TV.one (bv (decide ((a[k].toNat : Int) < (b[k].toNat : Int)))) = _
      have e : decide ((a[k].toNat : Int) < (b[k].toNat : Int)) = ltS a b := by
        rw [hp, Bool.eq_iff_iff, decide_eq_true_iff, decide_eq_true_iff]; omega
      rw [e]
    · have h : (!((a[k].toNat : Int) == (b[k].toNat : Int))) = false := h
      have he : a.data.toList[k]? = b.data.toList[k]? := by
        rw [ba_get a k h1, ba_get b k h2]
        simp at h
        have : a[k] = b[k] := UInt8.toNat_inj.1 (by omega)
        rw [this]
      repeat (first | refine LOps.nil ?_ | refine andThen_normal ?_ | refine andThen_exit ?_ | refine andThen_ret ?_ | refine inBlock_normal ?_ | refine inBlock_ret ?_ | refine inBlock_here ?_ | refine inBlock_out rfl ?_ | refine LWp.seq ?_ | refine LWp.region ?_ | refine LWp.block ?_ | refine LWp.exit ?_ | refine LWp.ret ?_ | refine LWp.skip ?_ | refine LOps.valA ?_ | refine LOps.outA ?_ | refine LOps.whenA ?_ | refine LOps.pickA ?_ | refine LOps.storeA ?_)
      exact ⟨a.size - (k + 1), by omega, rfl, _, k + 1, by omega, by omega, com_succ _ _ k (by simpa using h1) (by simpa using h2) hkc he, rfl, holds.over ⟨rfl, rfl, rfl, trivial⟩⟩
  · have h : (decide ((k : Int) < (a.size : Int)) && decide ((k : Int) < (b.size : Int))) = false := h
    have hend := end_lt hkc (show a.size ≤ k ∨ b.size ≤ k by
      rw [Bool.and_eq_false_iff, decide_eq_false_iff_not, decide_eq_false_iff_not] at h; omega)
    repeat (first | refine LOps.nil ?_ | refine andThen_normal ?_ | refine andThen_exit ?_ | refine andThen_ret ?_ | refine inBlock_normal ?_ | refine inBlock_ret ?_ | refine inBlock_here ?_ | refine inBlock_out rfl ?_ | refine LWp.seq ?_ | refine LWp.region ?_ | refine LWp.block ?_ | refine LWp.exit ?_ | refine LWp.ret ?_ | refine LWp.skip ?_ | refine LOps.valA ?_ | refine LOps.outA ?_ | refine LOps.whenA ?_ | refine LOps.pickA ?_ | refine LOps.storeA ?_)
    refine ⟨_, LRes.one rfl, ?_, .refl _⟩
    show TV.one (bv (decide ((a.size : Int) < (b.size : Int)))) = _
    have e : decide ((a.size : Int) < (b.size : Int)) = ltS a b := by
      rw [hend, Bool.eq_iff_iff, decide_eq_true_iff, decide_eq_true_iff]; omega
    rw [e]
end Go.Proofs.Ytkjbdldjfjkneaa.LF
