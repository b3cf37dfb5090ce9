/- slices.Grow of nil, slices.Concat (of ByteArray). (Printed by gen_dir.sh.) -/
import Derived.Test.YtkjbdldjfjkneaaLFzc
import Derived.Test.YtkjbdldjfjkneaaLDz
set_option linter.unusedVariables false
set_option linter.unusedSimpArgs false
namespace Go.Proofs.Ytkjbdldjfjkneaa.LF
open Go.RowKit
set_option linter.unusedVariables false

set_option maxHeartbeats 4000000 in
theorem growS_F {G : Ctx} (hP : G.P = Try.prog) (m : Nat) (h0 : 0 < m) (hm : m ≤ 100000000) (S : LS) : LCalls G 51 [.one (.sl .nil []), .one (iv (m : Nat))] (fun r S' => ∃ b c cs, S.fresh b ∧ m ≤ c ∧ cs.length = c ∧ r = .one (rsl b 0 0 c) ∧ S' = S.newBox b cs) S := by
  have hD : TabOK G.P D := by rw [hP]; exact hD0
  have h00 : ([] : List (List LV)).length = 0 := rfl
  refine LCalls.enter (fn := Try.f51) (by rw [hP]; exact Try.func51) rfl rfl ?_
  repeat (first | refine LOps.nil ?_ | refine andThen_normal ?_ | refine andThen_exit ?_ | refine andThen_ret ?_ | refine inBlock_normal ?_ | refine inBlock_ret ?_ | refine inBlock_here ?_ | refine inBlock_out rfl ?_ | refine LWp.seq ?_ | refine LWp.region ?_ | refine LWp.block ?_ | refine LWp.exit ?_ | refine LWp.ret ?_ | refine LWp.skip ?_ | refine LOps.valA ?_ | refine LOps.outA ?_ | refine LOps.whenA ?_ | refine LOps.pickA ?_ | refine LOps.storeA ?_)
  refine LWp.cond rfl (fun h => ?_) (fun h => ?_)
  · have h : decide ((m : Int) < 0) = true := h
    rw [decide_eq_true_iff] at h; omega
  repeat (first | refine LOps.val (LVal.capNil hD rfl rfl rfl rfl) rfl rfl rfl ?_ | refine LOps.nil ?_ | refine andThen_normal ?_ | refine andThen_exit ?_ | refine andThen_ret ?_ | refine inBlock_normal ?_ | refine inBlock_ret ?_ | refine inBlock_here ?_ | refine inBlock_out rfl ?_ | refine LWp.seq ?_ | refine LWp.region ?_ | refine LWp.block ?_ | refine LWp.exit ?_ | refine LWp.ret ?_ | refine LWp.skip ?_ | refine LOps.valA ?_ | refine LOps.outA ?_ | refine LOps.whenA ?_ | refine LOps.pickA ?_ | refine LOps.storeA ?_)
  refine LWp.cond rfl (fun h => ?_) (fun h => ?_)
  · have e1 : (m : Int) - (0 - ((([] : List (List LV)).length : Nat) : Int)) = (m : Int) := by rw [h00]; simp
    repeat (first | refine LOps.val (LVal.capNil hD rfl rfl rfl rfl) rfl rfl rfl ?_ | refine LOps.val (LVal.sliceNil hD rfl rfl rfl rfl rfl rfl rfl rfl rfl) rfl rfl rfl ?_ | refine LOps.nil ?_ | refine andThen_normal ?_ | refine andThen_exit ?_ | refine andThen_ret ?_ | refine inBlock_normal ?_ | refine inBlock_ret ?_ | refine inBlock_here ?_ | refine inBlock_out rfl ?_ | refine LWp.seq ?_ | refine LWp.region ?_ | refine LWp.block ?_ | refine LWp.exit ?_ | refine LWp.ret ?_ | refine LWp.skip ?_ | refine LOps.valA ?_ | refine LOps.outA ?_ | refine LOps.whenA ?_ | refine LOps.pickA ?_ | refine LOps.storeA ?_)
    refine LOps.do (LDo.appendZerosN (m := m) hD rfl rfl (by rw [← e1]; rfl) rfl rfl rfl rfl rfl rfl rfl rfl h0 hm) rfl rfl rfl ?_
    rintro _ _ ⟨b, c, hb, hc, rfl, rfl⟩
    repeat (first | refine LOps.val (LVal.to (LVal.sliceR (l := 0) (h := 0) hD rfl rfl rfl rfl rfl rfl rfl (by omega) (by omega)) (r' := .one (rsl b 0 0 c)) (by simp [partOff])) rfl rfl rfl ?_ | refine LOps.nil ?_ | refine andThen_normal ?_ | refine andThen_exit ?_ | refine andThen_ret ?_ | refine inBlock_normal ?_ | refine inBlock_ret ?_ | refine inBlock_here ?_ | refine inBlock_out rfl ?_ | refine LWp.seq ?_ | refine LWp.region ?_ | refine LWp.block ?_ | refine LWp.exit ?_ | refine LWp.ret ?_ | refine LWp.skip ?_ | refine LOps.valA ?_ | refine LOps.outA ?_ | refine LOps.whenA ?_ | refine LOps.pickA ?_ | refine LOps.storeA ?_)
    refine ⟨_, LRes.one rfl, b, c, _, hb, hc, ?_, rfl, rfl⟩
    rw [List.length_append, zrow_length, zrow_length]
    show m * 1 + (c - m) * 1 = c
    omega
  · exfalso
    have h : decide ((m : Int) - (0 - ((([] : List (List LV)).length : Nat) : Int)) > 0) = false := h
    rw [h00] at h
    simp at h; omega

set_option maxHeartbeats 4000000 in
theorem catS_F {G : Ctx} (hP : G.P = Try.prog) (ls : List (List (List LV))) (hz : ∀ l ∈ ls, ∀ e ∈ l, e.length = 1) (h0 : 0 < ls.flatten.length) (hl : ls.length ≤ 1000) (hm : ls.flatten.length ≤ 100000000) : LFun G 42 [.one (.sl .sh (ls.map shE))] (.one (.sl .sh ls.flatten)) := LFun.of fun S => by
  have hD : TabOK G.P D := by rw [hP]; exact hD0
  have hml : (ls.map shE).length = ls.length := List.length_map ..
  refine LCalls.enter (fn := Try.f42) (by rw [hP]; exact Try.func42) rfl rfl ?_
  repeat (first | refine LWp.seq (LWp.cut 2 (fun T' S' => S' = S ∧ ∃ T'', T' = over T'' [(0, .one (.sl .sh (ls.map shE))), (3, .one (iv (ls.flatten.length : Nat)))]) rfl ?_ ?_) | refine LOps.nil ?_ | refine andThen_normal ?_ | refine andThen_exit ?_ | refine andThen_ret ?_ | refine inBlock_normal ?_ | refine inBlock_ret ?_ | refine inBlock_here ?_ | refine inBlock_out rfl ?_ | refine LWp.seq ?_ | refine LWp.region ?_ | refine LWp.block ?_ | refine LWp.exit ?_ | refine LWp.ret ?_ | refine LWp.skip ?_ | refine LOps.valA ?_ | refine LOps.outA ?_ | refine LOps.whenA ?_ | refine LOps.pickA ?_ | refine LOps.storeA ?_)
  · repeat (first | refine LOps.nil ?_ | refine andThen_normal ?_ | refine andThen_exit ?_ | refine andThen_ret ?_ | refine inBlock_normal ?_ | refine inBlock_ret ?_ | refine inBlock_here ?_ | refine inBlock_out rfl ?_ | refine LWp.seq ?_ | refine LWp.region ?_ | refine LWp.block ?_ | refine LWp.exit ?_ | refine LWp.ret ?_ | refine LWp.skip ?_ | refine LOps.valA ?_ | refine LOps.outA ?_ | refine LOps.whenA ?_ | refine LOps.pickA ?_ | refine LOps.storeA ?_)
    refine LWp.loop (fun k T S' => S' = S ∧ ∃ (T' : Nat → TV) (j : Nat), j ≤ ls.length ∧ k = ls.length - j ∧ T = over T' [(0, .one (.sl .sh (ls.map shE))), (3, .one (iv ((catN ls j).length : Nat))), (9, .one (.sl .sh (ls.map shE))), (10, .one (iv (ls.length : Nat))), (11, .one (iv (j : Nat)))]) ls.length ?_ ?_
    · exact ⟨rfl, _, 0, by omega, rfl, holds.over ⟨rfl, rfl, rfl, by rw [← hml]; rfl, rfl, trivial⟩⟩
    rintro k T S1 ⟨rfl, T', j, hj, rfl, rfl⟩
    repeat (first | refine LOps.nil ?_ | refine andThen_normal ?_ | refine andThen_exit ?_ | refine andThen_ret ?_ | refine inBlock_normal ?_ | refine inBlock_ret ?_ | refine inBlock_here ?_ | refine inBlock_out rfl ?_ | refine LWp.seq ?_ | refine LWp.region ?_ | refine LWp.block ?_ | refine LWp.exit ?_ | refine LWp.ret ?_ | refine LWp.skip ?_ | refine LOps.valA ?_ | refine LOps.outA ?_ | refine LOps.whenA ?_ | refine LOps.pickA ?_ | refine LOps.storeA ?_)
    refine LWp.cond rfl (fun h => ?_) (fun h => ?_)
    · have hlt : j < ls.length := by
        have h : decide ((j : Int) < ((ls.length : Nat) : Int)) = true := h
        rw [decide_eq_true_iff] at h; omega
      have hle := catN_le ls (j + 1)
      have hsl : (catN ls (j + 1)).length = (catN ls j).length + ls[j].length := by rw [catN_step hlt, List.length_append]
      repeat (first | refine LOps.nil ?_ | refine andThen_normal ?_ | refine andThen_exit ?_ | refine andThen_ret ?_ | refine inBlock_normal ?_ | refine inBlock_ret ?_ | refine inBlock_here ?_ | refine inBlock_out rfl ?_ | refine LWp.seq ?_ | refine LWp.region ?_ | refine LWp.block ?_ | refine LWp.exit ?_ | refine LWp.ret ?_ | refine LWp.skip ?_ | refine LOps.valA ?_ | refine LOps.outA ?_ | refine LOps.whenA ?_ | refine LOps.pickA ?_ | refine LOps.storeA ?_)
      refine LWp.cond rfl (fun h => ?_) (fun h => ?_)
      · exfalso
        have h : decide (((catN ls j).length : Int) + (ls[j].length : Int) < 0) = true := h
        rw [decide_eq_true_iff] at h; omega
      repeat (first | refine LOps.nil ?_ | refine andThen_normal ?_ | refine andThen_exit ?_ | refine andThen_ret ?_ | refine inBlock_normal ?_ | refine inBlock_ret ?_ | refine inBlock_here ?_ | refine inBlock_out rfl ?_ | refine LWp.seq ?_ | refine LWp.region ?_ | refine LWp.block ?_ | refine LWp.exit ?_ | refine LWp.ret ?_ | refine LWp.skip ?_ | refine LOps.valA ?_ | refine LOps.outA ?_ | refine LOps.whenA ?_ | refine LOps.pickA ?_ | refine LOps.storeA ?_)
      exact ⟨ls.length - (j + 1), by omega, rfl, _, j + 1, by omega, rfl, holds.over ⟨rfl, by rw [hsl, Int.natCast_add]; rfl, rfl, rfl, rfl, trivial⟩⟩
    · have hge : j = ls.length := by
        have h : decide ((j : Int) < ((ls.length : Nat) : Int)) = false := h
        rw [decide_eq_false_iff_not] at h; omega
      subst hge
      repeat (first | refine LOps.nil ?_ | refine andThen_normal ?_ | refine andThen_exit ?_ | refine andThen_ret ?_ | refine inBlock_normal ?_ | refine inBlock_ret ?_ | refine inBlock_here ?_ | refine inBlock_out rfl ?_ | refine LWp.seq ?_ | refine LWp.region ?_ | refine LWp.block ?_ | refine LWp.exit ?_ | refine LWp.ret ?_ | refine LWp.skip ?_ | refine LOps.valA ?_ | refine LOps.outA ?_ | refine LOps.whenA ?_ | refine LOps.pickA ?_ | refine LOps.storeA ?_)
      exact ⟨rfl, _, holds.over ⟨rfl, by rw [catN_all]; rfl, trivial⟩⟩
  rintro _ S0 ⟨rfl, T'', rfl⟩
  repeat (first | refine LOps.nil ?_ | refine andThen_normal ?_ | refine andThen_exit ?_ | refine andThen_ret ?_ | refine inBlock_normal ?_ | refine inBlock_ret ?_ | refine inBlock_here ?_ | refine inBlock_out rfl ?_ | refine LWp.seq ?_ | refine LWp.region ?_ | refine LWp.block ?_ | refine LWp.exit ?_ | refine LWp.ret ?_ | refine LWp.skip ?_ | refine LOps.valA ?_ | refine LOps.outA ?_ | refine LOps.whenA ?_ | refine LOps.pickA ?_ | refine LOps.storeA ?_)
  refine LOps.do (LDo.callX (growS_F hP ls.flatten.length h0 hm S0) (by rw [hP]; exact Try.func51)) rfl rfl rfl ?_
  rintro _ _ ⟨b, c, cs, hb, hc, hcl, rfl, rfl⟩
  have hle0 : S0.le (S0.newBox b cs) := .newBox (.refl _) hb _
  have hbx := box_new S0 b cs
  have hno := hb.box
  have hfz : ∀ e ∈ ls.flatten, e.length = 1 := fun e he => by
    obtain ⟨l, h1, h2⟩ := List.mem_flatten.1 he
    exact hz l h1 e h2
  generalize S0.newBox b cs = S1 at hle0 hbx
  repeat (first | refine LOps.nil ?_ | refine andThen_normal ?_ | refine andThen_exit ?_ | refine andThen_ret ?_ | refine inBlock_normal ?_ | refine inBlock_ret ?_ | refine inBlock_here ?_ | refine inBlock_out rfl ?_ | refine LWp.seq ?_ | refine LWp.region ?_ | refine LWp.block ?_ | refine LWp.exit ?_ | refine LWp.ret ?_ | refine LWp.skip ?_ | refine LOps.valA ?_ | refine LOps.outA ?_ | refine LOps.whenA ?_ | refine LOps.pickA ?_ | refine LOps.storeA ?_)
  refine LWp.loop (fun k T S' => ∃ (T' : Nat → TV) (j : Nat) (cs : List LV), S0.le S' ∧ S'.box b = some cs ∧ cs.length = c ∧ j ≤ ls.length ∧ k = ls.length - j ∧ cs.take (catN ls j).length = (catN ls j).flatten ∧
    T = over T' [(6, .one (rsl b 0 (catN ls j).length c)), (25, .one (.sl .sh (ls.map shE))), (26, .one (iv (ls.length : Nat))), (27, .one (iv (j : Nat)))]) ls.length ?_ ?_
  · exact ⟨_, 0, cs, hle0, hbx, hcl, by omega, rfl, by simp [catN], holds.over ⟨rfl, rfl, by rw [← hml]; rfl, rfl, trivial⟩⟩
  rintro k T S2 ⟨T', j, cs, hle, hbx, hcl, hj, rfl, htk, rfl⟩
  repeat (first | refine LOps.nil ?_ | refine andThen_normal ?_ | refine andThen_exit ?_ | refine andThen_ret ?_ | refine inBlock_normal ?_ | refine inBlock_ret ?_ | refine inBlock_here ?_ | refine inBlock_out rfl ?_ | refine LWp.seq ?_ | refine LWp.region ?_ | refine LWp.block ?_ | refine LWp.exit ?_ | refine LWp.ret ?_ | refine LWp.skip ?_ | refine LOps.valA ?_ | refine LOps.outA ?_ | refine LOps.whenA ?_ | refine LOps.pickA ?_ | refine LOps.storeA ?_)
  refine LWp.cond rfl (fun h => ?_) (fun h => ?_)
  · have hlt : j < ls.length := by
      have h : decide ((j : Int) < ((ls.length : Nat) : Int)) = true := h
      rw [decide_eq_true_iff] at h; omega
    have hlc := catN_le ls (j + 1)
    have hsl : (catN ls (j + 1)).length = (catN ls j).length + ls[j].length := by rw [catN_step hlt, List.length_append]
    have hz1 := hz ls[j] (List.getElem_mem hlt)
    have hfl := flatten_length hz1
    repeat (first | refine LOps.nil ?_ | refine andThen_normal ?_ | refine andThen_exit ?_ | refine andThen_ret ?_ | refine inBlock_normal ?_ | refine inBlock_ret ?_ | refine inBlock_here ?_ | refine inBlock_out rfl ?_ | refine LWp.seq ?_ | refine LWp.region ?_ | refine LWp.block ?_ | refine LWp.exit ?_ | refine LWp.ret ?_ | refine LWp.skip ?_ | refine LOps.valA ?_ | refine LOps.outA ?_ | refine LOps.whenA ?_ | refine LOps.pickA ?_ | refine LOps.storeA ?_)
    refine LOps.do (LDo.appendRoomR hD rfl rfl rfl rfl rfl rfl rfl hbx (show 0 + c * 1 ≤ cs.length by omega) (.sl .sh ls[j] hz1) (by omega)) rfl rfl rfl ?_
    rintro _ S3 ⟨rfl, hS3⟩
    have hS3 : S3 = S2.setBox b (splice cs (0 + (catN ls j).length * 1) ls[j].flatten) := hS3
    subst hS3
    repeat (first | refine LOps.nil ?_ | refine andThen_normal ?_ | refine andThen_exit ?_ | refine andThen_ret ?_ | refine inBlock_normal ?_ | refine inBlock_ret ?_ | refine inBlock_here ?_ | refine inBlock_out rfl ?_ | refine LWp.seq ?_ | refine LWp.region ?_ | refine LWp.block ?_ | refine LWp.exit ?_ | refine LWp.ret ?_ | refine LWp.skip ?_ | refine LOps.valA ?_ | refine LOps.outA ?_ | refine LOps.whenA ?_ | refine LOps.pickA ?_ | refine LOps.storeA ?_)
    have hsp : 0 + (catN ls j).length * 1 + ls[j].flatten.length ≤ cs.length := by rw [hfl]; omega
    refine ⟨ls.length - (j + 1), by omega, _, j + 1, _, hle.setBox hno _, box_set _ _ _, by rw [splice_length hsp]; exact hcl, by omega, rfl, ?_, holds.over ⟨by rw [hsl]; rfl, rfl, rfl, rfl, trivial⟩⟩
    rw [hsl, catN_step hlt, List.flatten_append, ← htk]
    unfold splice
    have h1 : (cs.take (0 + (catN ls j).length * 1) ++ ls[j].flatten).length = (catN ls j).length + ls[j].length := by
      rw [List.length_append, List.length_take, hfl]; omega
    rw [List.take_left' h1, Nat.mul_one, Nat.zero_add]
  · have hge : j = ls.length := by
      have h : decide ((j : Int) < ((ls.length : Nat) : Int)) = false := h
      rw [decide_eq_false_iff_not] at h; omega
    subst hge
    rw [catN_all] at htk
    have hfl := flatten_length hfz
    rw [catN_all]
    have hpt : Part cs 0 c 1 ls.flatten := ⟨hfz, by rw [List.drop_zero, Nat.mul_one, htk], by omega, hc⟩
    repeat (first | refine LOps.freeze 35 rfl hbx hpt ?_ | refine LOps.nil ?_ | refine andThen_normal ?_ | refine andThen_exit ?_ | refine andThen_ret ?_ | refine inBlock_normal ?_ | refine inBlock_ret ?_ | refine inBlock_here ?_ | refine inBlock_out rfl ?_ | refine LWp.seq ?_ | refine LWp.region ?_ | refine LWp.block ?_ | refine LWp.exit ?_ | refine LWp.ret ?_ | refine LWp.skip ?_ | refine LOps.valA ?_ | refine LOps.outA ?_ | refine LOps.whenA ?_ | refine LOps.pickA ?_ | refine LOps.storeA ?_)
    exact ⟨_, LRes.one rfl, rfl, hle.delBox hno⟩
end Go.Proofs.Ytkjbdldjfjkneaa.LF
