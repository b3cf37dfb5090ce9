/- The document's size, Encode; the walk of the law 'ScriptWrites'. -/
import Derived.Test.YtbifiagpmoakdaaLSy
set_option linter.unusedVariables false
set_option linter.unusedSimpArgs false
namespace Go.Proofs.Ytbifiagpmoakdaa.LF
open Go.RowKit
set_option linter.unusedVariables false

theorem dlen (t : ByteArray) : t.data.toList.length = t.size := by rw [Array.length_toList]; rfl
theorem textB_len (t : ByteArray) : (textB t).length = t.size + 1 := by unfold textB; rw [List.length_cons, dlen]
theorem flat_step {ws : List Wr} {j : Nat} (h : j < ws.length) : ((ws.take (j + 1)).flatMap wrB).length = ((ws.take j).flatMap wrB).length + (2 + ws[j].key.size + if ws[j].gone then 0 else 1 + ws[j].val.size) := by
  rw [List.take_succ_eq_append_getElem h, List.flatMap_append, List.length_append]
  simp only [List.flatMap_cons, List.flatMap_nil, List.append_nil, wrB, List.length_append, textB_len, markB_len]
  split <;> simp [textB_len] <;> omega
theorem flat_le {ws : List Wr} (h : ∀ w ∈ ws, wrOK w) (j : Nat) : ((ws.take j).flatMap wrB).length ≤ ws.length * 600 := by
  have h1 := flatB_len (l := ws.take j) fun w hw => h w (List.mem_of_mem_take hw)
  have : (ws.take j).length ≤ ws.length := by rw [List.length_take]; omega
  exact Nat.le_trans h1 (Nat.mul_le_mul_right _ this)

set_option maxHeartbeats 16000000 in
theorem refSize_F {G : Ctx} (hP : G.P = Try.prog) (x : En) (hx : enOK x) : LFun G 23 [.agg (enL x)] (.one (iv ((enBytes x).length : Nat))) := LFun.of fun S => by
  have hD : TabOK G.P D := by rw [hP]; exact hD0
  have hmw : (x.op.writes.map wrL).length = x.op.writes.length := List.length_map ..
  have hk := enOK_kind hx
  refine LCalls.enter (fn := Try.f23) (by rw [hP]; exact Try.func23) rfl rfl ?_
  repeat (first | refine LOps.nil ?_ | refine andThen_normal ?_ | refine andThen_exit ?_ | refine andThen_ret ?_ | refine inBlock_normal ?_ | refine inBlock_ret ?_ | refine inBlock_here ?_ | refine inBlock_out rfl ?_ | refine LWp.seq ?_ | refine LWp.region ?_ | refine LWp.block ?_ | refine LWp.exit ?_ | refine LWp.ret ?_ | refine LWp.skip ?_ | refine LOps.valA ?_ | refine LOps.outA ?_ | refine LOps.whenA ?_ | refine LOps.pickA ?_ | refine LOps.storeA ?_)
  refine LOps.do (LDo.box rfl rfl) rfl rfl rfl ?_
  rintro _ _ ⟨b1, hb1, rfl, rfl⟩
  have k1 : (S.newBox b1 (enL x)).box b1 = some (enL x) := box_new _ _ _
  have le1 : S.le (S.newBox b1 (enL x)) := .newBox (.refl _) hb1 _
  repeat (first | refine LOps.nil ?_ | refine andThen_normal ?_ | refine andThen_exit ?_ | refine andThen_ret ?_ | refine inBlock_normal ?_ | refine inBlock_ret ?_ | refine inBlock_here ?_ | refine inBlock_out rfl ?_ | refine LWp.seq ?_ | refine LWp.region ?_ | refine LWp.block ?_ | refine LWp.exit ?_ | refine LWp.ret ?_ | refine LWp.skip ?_ | refine LOps.valA ?_ | refine LOps.outA ?_ | refine LOps.whenA ?_ | refine LOps.pickA ?_ | refine LOps.storeA ?_)
  refine LOps.do (LDo.alloc hD rfl rfl rfl) rfl rfl rfl ?_
  rintro _ _ ⟨b3, hb3, rfl, rfl⟩
  have n13 : b1 ≠ b3 := fresh_ne hb3 k1
  have s3 := le1.none hb3
  repeat (first | refine LOps.gen (fun S1 => S.le S1 ∧ S1.box b1 = some (enL x) ∧ S1.box b3 = some (opL x.op)) ⟨(le1.newBox hb3 _).setBox s3 _, (box_set_ne _ _ n13).trans ((box_new_ne _ _ n13).trans k1), box_set _ _ _⟩ ?_ | refine LOps.nil ?_ | refine andThen_normal ?_ | refine andThen_exit ?_ | refine andThen_ret ?_ | refine inBlock_normal ?_ | refine inBlock_ret ?_ | refine inBlock_here ?_ | refine inBlock_out rfl ?_ | refine LWp.seq ?_ | refine LWp.region ?_ | refine LWp.block ?_ | refine LWp.exit ?_ | refine LWp.ret ?_ | refine LWp.skip ?_ | refine LOps.valA ?_ | refine LOps.outA ?_ | refine LOps.whenA ?_ | refine LOps.pickA ?_ | refine LOps.storeA ?_)
  clear k1 le1 hb1 hb3 s3
  rintro S1 ⟨hle, k1, k3⟩
  repeat (first | refine LWp.seq (LWp.cut 2 (fun T' S' => S' = S1 ∧ x.kind = 1 ∧ ∃ T'', T' = over T'' [(3, ptr b3)]) rfl ?_ ?_) | refine LWp.seq (LWp.cut 3 (fun T' S' => S' = S1 ∧ ∃ T'', T' = over T'' [(1, ptr b1), (3, ptr b3), (10, .one (uv x.kind)), (11, .one (bv (decide (x.kind = 2 ∨ x.kind = 3))))]) rfl ?_ ?_) | refine LOps.nil ?_ | refine andThen_normal ?_ | refine andThen_exit ?_ | refine andThen_ret ?_ | refine inBlock_normal ?_ | refine inBlock_ret ?_ | refine inBlock_here ?_ | refine inBlock_out rfl ?_ | refine LWp.seq ?_ | refine LWp.region ?_ | refine LWp.block ?_ | refine LWp.exit ?_ | refine LWp.ret ?_ | refine LWp.skip ?_ | refine LOps.valA ?_ | refine LOps.outA ?_ | refine LOps.whenA ?_ | refine LOps.pickA ?_ | refine LOps.storeA ?_)
  · repeat (first | refine LOps.nil ?_ | refine andThen_normal ?_ | refine andThen_exit ?_ | refine andThen_ret ?_ | refine inBlock_normal ?_ | refine inBlock_ret ?_ | refine inBlock_here ?_ | refine inBlock_out rfl ?_ | refine LWp.seq ?_ | refine LWp.region ?_ | refine LWp.block ?_ | refine LWp.exit ?_ | refine LWp.ret ?_ | refine LWp.skip ?_ | refine LOps.valA ?_ | refine LOps.outA ?_ | refine LOps.whenA ?_ | refine LOps.pickA ?_ | refine LOps.storeA ?_)
    refine LWp.cond rfl (fun h => ?_) (fun h => ?_)
    · have h4 : x.kind = 2 := by simpa using h
      repeat (first | refine LOps.nil ?_ | refine andThen_normal ?_ | refine andThen_exit ?_ | refine andThen_ret ?_ | refine inBlock_normal ?_ | refine inBlock_ret ?_ | refine inBlock_here ?_ | refine inBlock_out rfl ?_ | refine LWp.seq ?_ | refine LWp.region ?_ | refine LWp.block ?_ | refine LWp.exit ?_ | refine LWp.ret ?_ | refine LWp.skip ?_ | refine LOps.valA ?_ | refine LOps.outA ?_ | refine LOps.whenA ?_ | refine LOps.pickA ?_ | refine LOps.storeA ?_)
      refine ⟨rfl, _, holds.over ⟨rfl, rfl, rfl, ?_, trivial⟩⟩
      have : decide (x.kind = 2 ∨ x.kind = 3) = (x.kind == 2) := by simp [h4]
      rw [this]; rfl
    · have h4 : ¬ x.kind = 2 := by simpa using h
      repeat (first | refine LOps.nil ?_ | refine andThen_normal ?_ | refine andThen_exit ?_ | refine andThen_ret ?_ | refine inBlock_normal ?_ | refine inBlock_ret ?_ | refine inBlock_here ?_ | refine inBlock_out rfl ?_ | refine LWp.seq ?_ | refine LWp.region ?_ | refine LWp.block ?_ | refine LWp.exit ?_ | refine LWp.ret ?_ | refine LWp.skip ?_ | refine LOps.valA ?_ | refine LOps.outA ?_ | refine LOps.whenA ?_ | refine LOps.pickA ?_ | refine LOps.storeA ?_)
      refine ⟨rfl, _, holds.over ⟨rfl, rfl, rfl, ?_, trivial⟩⟩
      have : decide (x.kind = 2 ∨ x.kind = 3) = (x.kind == 3) := by by_cases h5 : x.kind = 3 <;> simp [h4, h5]
      rw [this]; rfl
  · rintro T' S1 ⟨rfl, T'', rfl⟩
    repeat (first | refine LOps.nil ?_ | refine andThen_normal ?_ | refine andThen_exit ?_ | refine andThen_ret ?_ | refine inBlock_normal ?_ | refine inBlock_ret ?_ | refine inBlock_here ?_ | refine inBlock_out rfl ?_ | refine LWp.seq ?_ | refine LWp.region ?_ | refine LWp.block ?_ | refine LWp.exit ?_ | refine LWp.ret ?_ | refine LWp.skip ?_ | refine LOps.valA ?_ | refine LOps.outA ?_ | refine LOps.whenA ?_ | refine LOps.pickA ?_ | refine LOps.storeA ?_)
    refine LWp.cond rfl (fun h => ?_) (fun h => ?_)
    · have hc : x.kind = 2 ∨ x.kind = 3 := by simpa using h
      have hl : (enBytes x).length = 3 := by
        unfold enBytes enB
        rcases hc with hc | hc
        · rw [if_neg (by omega), if_pos hc, List.length_cons, leB_len]
        · rw [if_neg (by omega), if_neg (by omega), if_pos hc]; rfl
      rw [hl]
      repeat (first | refine LOps.nil ?_ | refine andThen_normal ?_ | refine andThen_exit ?_ | refine andThen_ret ?_ | refine inBlock_normal ?_ | refine inBlock_ret ?_ | refine inBlock_here ?_ | refine inBlock_out rfl ?_ | refine LWp.seq ?_ | refine LWp.region ?_ | refine LWp.block ?_ | refine LWp.exit ?_ | refine LWp.ret ?_ | refine LWp.skip ?_ | refine LOps.valA ?_ | refine LOps.outA ?_ | refine LOps.whenA ?_ | refine LOps.pickA ?_ | refine LOps.storeA ?_)
      exact ⟨_, LRes.one rfl, rfl, hle⟩
    have hc2 : ¬ (x.kind = 2 ∨ x.kind = 3) := by simpa using h
    repeat (first | refine LWp.seq (LWp.cut 6 (fun T' S' => S' = S1 ∧ ∃ T'', T' = over T'' [(1, ptr b1), (3, ptr b3), (10, .one (uv x.kind)), (14, .one (bv (decide (x.kind = 4 ∨ x.kind = 5))))]) rfl ?_ ?_) | refine LOps.nil ?_ | refine andThen_normal ?_ | refine andThen_exit ?_ | refine andThen_ret ?_ | refine inBlock_normal ?_ | refine inBlock_ret ?_ | refine inBlock_here ?_ | refine inBlock_out rfl ?_ | refine LWp.seq ?_ | refine LWp.region ?_ | refine LWp.block ?_ | refine LWp.exit ?_ | refine LWp.ret ?_ | refine LWp.skip ?_ | refine LOps.valA ?_ | refine LOps.outA ?_ | refine LOps.whenA ?_ | refine LOps.pickA ?_ | refine LOps.storeA ?_)
    · repeat (first | refine LOps.nil ?_ | refine andThen_normal ?_ | refine andThen_exit ?_ | refine andThen_ret ?_ | refine inBlock_normal ?_ | refine inBlock_ret ?_ | refine inBlock_here ?_ | refine inBlock_out rfl ?_ | refine LWp.seq ?_ | refine LWp.region ?_ | refine LWp.block ?_ | refine LWp.exit ?_ | refine LWp.ret ?_ | refine LWp.skip ?_ | refine LOps.valA ?_ | refine LOps.outA ?_ | refine LOps.whenA ?_ | refine LOps.pickA ?_ | refine LOps.storeA ?_)
      refine LWp.cond rfl (fun h => ?_) (fun h => ?_)
      · have h4 : x.kind = 4 := by simpa using h
        repeat (first | refine LOps.nil ?_ | refine andThen_normal ?_ | refine andThen_exit ?_ | refine andThen_ret ?_ | refine inBlock_normal ?_ | refine inBlock_ret ?_ | refine inBlock_here ?_ | refine inBlock_out rfl ?_ | refine LWp.seq ?_ | refine LWp.region ?_ | refine LWp.block ?_ | refine LWp.exit ?_ | refine LWp.ret ?_ | refine LWp.skip ?_ | refine LOps.valA ?_ | refine LOps.outA ?_ | refine LOps.whenA ?_ | refine LOps.pickA ?_ | refine LOps.storeA ?_)
        refine ⟨rfl, _, holds.over ⟨rfl, rfl, rfl, ?_, trivial⟩⟩
        have : decide (x.kind = 4 ∨ x.kind = 5) = (x.kind == 4) := by simp [h4]
        rw [this]; rfl
      · have h4 : ¬ x.kind = 4 := by simpa using h
        repeat (first | refine LOps.nil ?_ | refine andThen_normal ?_ | refine andThen_exit ?_ | refine andThen_ret ?_ | refine inBlock_normal ?_ | refine inBlock_ret ?_ | refine inBlock_here ?_ | refine inBlock_out rfl ?_ | refine LWp.seq ?_ | refine LWp.region ?_ | refine LWp.block ?_ | refine LWp.exit ?_ | refine LWp.ret ?_ | refine LWp.skip ?_ | refine LOps.valA ?_ | refine LOps.outA ?_ | refine LOps.whenA ?_ | refine LOps.pickA ?_ | refine LOps.storeA ?_)
        refine ⟨rfl, _, holds.over ⟨rfl, rfl, rfl, ?_, trivial⟩⟩
        have : decide (x.kind = 4 ∨ x.kind = 5) = (x.kind == 5) := by by_cases h5 : x.kind = 5 <;> simp [h4, h5]
        rw [this]; rfl
    rintro T' S1 ⟨rfl, T'', rfl⟩
    repeat (first | refine LOps.nil ?_ | refine andThen_normal ?_ | refine andThen_exit ?_ | refine andThen_ret ?_ | refine inBlock_normal ?_ | refine inBlock_ret ?_ | refine inBlock_here ?_ | refine inBlock_out rfl ?_ | refine LWp.seq ?_ | refine LWp.region ?_ | refine LWp.block ?_ | refine LWp.exit ?_ | refine LWp.ret ?_ | refine LWp.skip ?_ | refine LOps.valA ?_ | refine LOps.outA ?_ | refine LOps.whenA ?_ | refine LOps.pickA ?_ | refine LOps.storeA ?_)
    refine LWp.cond rfl (fun h => ?_) (fun h => ?_)
    · have hc : x.kind = 4 ∨ x.kind = 5 := by simpa using h
      have hl : (enBytes x).length = 2 := by
        unfold enBytes enB
        rw [if_neg (by omega), if_neg (by omega), if_neg (by omega), if_pos hc]; rfl
      rw [hl]
      repeat (first | refine LOps.nil ?_ | refine andThen_normal ?_ | refine andThen_exit ?_ | refine andThen_ret ?_ | refine inBlock_normal ?_ | refine inBlock_ret ?_ | refine inBlock_here ?_ | refine inBlock_out rfl ?_ | refine LWp.seq ?_ | refine LWp.region ?_ | refine LWp.block ?_ | refine LWp.exit ?_ | refine LWp.ret ?_ | refine LWp.skip ?_ | refine LOps.valA ?_ | refine LOps.outA ?_ | refine LOps.whenA ?_ | refine LOps.pickA ?_ | refine LOps.storeA ?_)
      exact ⟨_, LRes.one rfl, rfl, hle⟩
    have hc4 : ¬ (x.kind = 4 ∨ x.kind = 5) := by simpa using h
    repeat (first | refine LOps.nil ?_ | refine andThen_normal ?_ | refine andThen_exit ?_ | refine andThen_ret ?_ | refine inBlock_normal ?_ | refine inBlock_ret ?_ | refine inBlock_here ?_ | refine inBlock_out rfl ?_ | refine LWp.seq ?_ | refine LWp.region ?_ | refine LWp.block ?_ | refine LWp.exit ?_ | refine LWp.ret ?_ | refine LWp.skip ?_ | refine LOps.valA ?_ | refine LOps.outA ?_ | refine LOps.whenA ?_ | refine LOps.pickA ?_ | refine LOps.storeA ?_)
    refine LWp.cond rfl (fun h => ?_) (fun h => ?_)
    · have hc : x.kind = 6 := by simpa using h
      have hl : (enBytes x).length = 5 := by
        unfold enBytes enB
        rw [if_neg (by omega), if_neg (by omega), if_neg (by omega), if_neg (by omega), if_pos hc, List.length_cons, leB_len]
      rw [hl]
      repeat (first | refine LOps.nil ?_ | refine andThen_normal ?_ | refine andThen_exit ?_ | refine andThen_ret ?_ | refine inBlock_normal ?_ | refine inBlock_ret ?_ | refine inBlock_here ?_ | refine inBlock_out rfl ?_ | refine LWp.seq ?_ | refine LWp.region ?_ | refine LWp.block ?_ | refine LWp.exit ?_ | refine LWp.ret ?_ | refine LWp.skip ?_ | refine LOps.valA ?_ | refine LOps.outA ?_ | refine LOps.whenA ?_ | refine LOps.pickA ?_ | refine LOps.storeA ?_)
      exact ⟨_, LRes.one rfl, rfl, hle⟩
    have hc6 : ¬ x.kind = 6 := by simpa using h
    repeat (first | refine LOps.nil ?_ | refine andThen_normal ?_ | refine andThen_exit ?_ | refine andThen_ret ?_ | refine inBlock_normal ?_ | refine inBlock_ret ?_ | refine inBlock_here ?_ | refine inBlock_out rfl ?_ | refine LWp.seq ?_ | refine LWp.region ?_ | refine LWp.block ?_ | refine LWp.exit ?_ | refine LWp.ret ?_ | refine LWp.skip ?_ | refine LOps.valA ?_ | refine LOps.outA ?_ | refine LOps.whenA ?_ | refine LOps.pickA ?_ | refine LOps.storeA ?_)
    exact ⟨rfl, by omega, _, holds.over ⟨rfl, trivial⟩⟩
  rintro T' S1 ⟨rfl, hk1, T'', rfl⟩
  have hr := ((enOK_1 hk1).1 hx).2.2
  have r1 := hr.key
  have r2 := hr.val
  have r3 := hr.old
  have r4 := hr.n
  have r5 := hr.kind
  have hlen : (enBytes x).length = 2 + (opB x.op).length := by
    unfold enBytes enB
    rw [if_pos hk1, List.length_cons, List.length_cons]; omega
  repeat (first | refine LOps.nil ?_ | refine andThen_normal ?_ | refine andThen_exit ?_ | refine andThen_ret ?_ | refine inBlock_normal ?_ | refine inBlock_ret ?_ | refine inBlock_here ?_ | refine inBlock_out rfl ?_ | refine LWp.seq ?_ | refine LWp.region ?_ | refine LWp.block ?_ | refine LWp.exit ?_ | refine LWp.ret ?_ | refine LWp.skip ?_ | refine LOps.valA ?_ | refine LOps.outA ?_ | refine LOps.whenA ?_ | refine LOps.pickA ?_ | refine LOps.storeA ?_)
  refine LWp.cond rfl (fun h => ?_) (fun h => ?_)
  · have h6 : x.op.kind = 6 := by simpa using h
    have hl : (opB x.op).length = 1 + (x.op.writes.flatMap wrB).length := by
      unfold opB
      rw [if_neg (by omega), if_neg (by omega), if_neg (by omega), if_neg (by omega), if_pos h6, List.length_cons]; omega
    rw [hlen, hl]
    have hws := hr.ws
    have hfl := flat_le hws
    repeat (first | refine LOps.nil ?_ | refine andThen_normal ?_ | refine andThen_exit ?_ | refine andThen_ret ?_ | refine inBlock_normal ?_ | refine inBlock_ret ?_ | refine inBlock_here ?_ | refine inBlock_out rfl ?_ | refine LWp.seq ?_ | refine LWp.region ?_ | refine LWp.block ?_ | refine LWp.exit ?_ | refine LWp.ret ?_ | refine LWp.skip ?_ | refine LOps.valA ?_ | refine LOps.outA ?_ | refine LOps.whenA ?_ | refine LOps.pickA ?_ | refine LOps.storeA ?_)
    refine LWp.loop (fun k T S' => S' = S1 ∧ ∃ (T' : Nat → TV) (j : Nat), j ≤ x.op.writes.length ∧ k = x.op.writes.length - j ∧ T = over T' [(3, ptr b3), (4, .one (iv ((3 + ((x.op.writes.take j).flatMap wrB).length : Nat) : Int))), (5, .one (iv (j : Nat)))]) x.op.writes.length ?_ ?_
    · exact ⟨rfl, _, 0, by omega, rfl, holds.over ⟨rfl, rfl, rfl, trivial⟩⟩
    rintro k T S2 ⟨rfl, T', j, hj, rfl, rfl⟩
    repeat (first | refine LOps.nil ?_ | refine andThen_normal ?_ | refine andThen_exit ?_ | refine andThen_ret ?_ | refine inBlock_normal ?_ | refine inBlock_ret ?_ | refine inBlock_here ?_ | refine inBlock_out rfl ?_ | refine LWp.seq ?_ | refine LWp.region ?_ | refine LWp.block ?_ | refine LWp.exit ?_ | refine LWp.ret ?_ | refine LWp.skip ?_ | refine LOps.valA ?_ | refine LOps.outA ?_ | refine LOps.whenA ?_ | refine LOps.pickA ?_ | refine LOps.storeA ?_)
    refine LWp.cond rfl (fun h => ?_) (fun h => ?_)
    · have hlt : j < x.op.writes.length := by simpa using h
      have hwj := hws _ (List.getElem_mem hlt)
      have hw1 := hwj.1
      have hw2 := hwj.2.1
      have hflj := hfl j
      have hst := flat_step hlt
      repeat (first | refine LWp.cut 17 (fun T' S' => S' = S2 ∧ ∃ (T'' : Nat → TV), T' = over T'' [(3, ptr b3), (4, .one (iv ((3 + ((x.op.writes.take (j + 1)).flatMap wrB).length : Nat) : Int))), (5, .one (iv (j : Nat)))]) rfl (LWp.seq ?_) ?_ | refine LOps.nil ?_ | refine andThen_normal ?_ | refine andThen_exit ?_ | refine andThen_ret ?_ | refine inBlock_normal ?_ | refine inBlock_ret ?_ | refine inBlock_here ?_ | refine inBlock_out rfl ?_ | refine LWp.seq ?_ | refine LWp.region ?_ | refine LWp.block ?_ | refine LWp.exit ?_ | refine LWp.ret ?_ | refine LWp.skip ?_ | refine LOps.valA ?_ | refine LOps.outA ?_ | refine LOps.whenA ?_ | refine LOps.pickA ?_ | refine LOps.storeA ?_)
      · repeat (first | refine LOps.nil ?_ | refine andThen_normal ?_ | refine andThen_exit ?_ | refine andThen_ret ?_ | refine inBlock_normal ?_ | refine inBlock_ret ?_ | refine inBlock_here ?_ | refine inBlock_out rfl ?_ | refine LWp.seq ?_ | refine LWp.region ?_ | refine LWp.block ?_ | refine LWp.exit ?_ | refine LWp.ret ?_ | refine LWp.skip ?_ | refine LOps.valA ?_ | refine LOps.outA ?_ | refine LOps.whenA ?_ | refine LOps.pickA ?_ | refine LOps.storeA ?_)
        refine LWp.cond rfl (fun h => ?_) (fun h => ?_)
        · have hg : x.op.writes[j].gone = false := by simpa using h
          rw [hg] at hst
          simp only [Bool.false_eq_true, if_false] at hst
          have e : (((3 + ((x.op.writes.take j).flatMap wrB).length : Nat) : Int) + 2 + (x.op.writes[j].key.size : Int) + 1 + (x.op.writes[j].val.size : Int)) = ((3 + ((x.op.writes.take (j + 1)).flatMap wrB).length : Nat) : Int) := by rw [hst]; omega
          repeat (first | refine LOps.nil ?_ | refine andThen_normal ?_ | refine andThen_exit ?_ | refine andThen_ret ?_ | refine inBlock_normal ?_ | refine inBlock_ret ?_ | refine inBlock_here ?_ | refine inBlock_out rfl ?_ | refine LWp.seq ?_ | refine LWp.region ?_ | refine LWp.block ?_ | refine LWp.exit ?_ | refine LWp.ret ?_ | refine LWp.skip ?_ | refine LOps.valA ?_ | refine LOps.outA ?_ | refine LOps.whenA ?_ | refine LOps.pickA ?_ | refine LOps.storeA ?_)
          rw [e]
          repeat (first | refine LOps.nil ?_ | refine andThen_normal ?_ | refine andThen_exit ?_ | refine andThen_ret ?_ | refine inBlock_normal ?_ | refine inBlock_ret ?_ | refine inBlock_here ?_ | refine inBlock_out rfl ?_ | refine LWp.seq ?_ | refine LWp.region ?_ | refine LWp.block ?_ | refine LWp.exit ?_ | refine LWp.ret ?_ | refine LWp.skip ?_ | refine LOps.valA ?_ | refine LOps.outA ?_ | refine LOps.whenA ?_ | refine LOps.pickA ?_ | refine LOps.storeA ?_)
          exact ⟨rfl, _, holds.over ⟨rfl, rfl, rfl, trivial⟩⟩
        · have hg : x.op.writes[j].gone = true := by simpa using h
          rw [hg] at hst
          simp only [if_true, Nat.add_zero] at hst
          have e : (((3 + ((x.op.writes.take j).flatMap wrB).length : Nat) : Int) + 2 + (x.op.writes[j].key.size : Int)) = ((3 + ((x.op.writes.take (j + 1)).flatMap wrB).length : Nat) : Int) := by rw [hst]; omega
          repeat (first | refine LOps.nil ?_ | refine andThen_normal ?_ | refine andThen_exit ?_ | refine andThen_ret ?_ | refine inBlock_normal ?_ | refine inBlock_ret ?_ | refine inBlock_here ?_ | refine inBlock_out rfl ?_ | refine LWp.seq ?_ | refine LWp.region ?_ | refine LWp.block ?_ | refine LWp.exit ?_ | refine LWp.ret ?_ | refine LWp.skip ?_ | refine LOps.valA ?_ | refine LOps.outA ?_ | refine LOps.whenA ?_ | refine LOps.pickA ?_ | refine LOps.storeA ?_)
          exact ⟨rfl, _, holds.over ⟨rfl, by rw [← e]; rfl, rfl, trivial⟩⟩
      rintro T' S2 ⟨rfl, T'', rfl⟩
      repeat (first | refine LOps.nil ?_ | refine andThen_normal ?_ | refine andThen_exit ?_ | refine andThen_ret ?_ | refine inBlock_normal ?_ | refine inBlock_ret ?_ | refine inBlock_here ?_ | refine inBlock_out rfl ?_ | refine LWp.seq ?_ | refine LWp.region ?_ | refine LWp.block ?_ | refine LWp.exit ?_ | refine LWp.ret ?_ | refine LWp.skip ?_ | refine LOps.valA ?_ | refine LOps.outA ?_ | refine LOps.whenA ?_ | refine LOps.pickA ?_ | refine LOps.storeA ?_)
      exact ⟨x.op.writes.length - (j + 1), by omega, rfl, _, j + 1, by omega, rfl, holds.over ⟨rfl, rfl, rfl, trivial⟩⟩
    · have hge : j = x.op.writes.length := by simp at h; omega
      subst hge
      rw [List.take_length]
      repeat (first | refine LOps.nil ?_ | refine andThen_normal ?_ | refine andThen_exit ?_ | refine andThen_ret ?_ | refine inBlock_normal ?_ | refine inBlock_ret ?_ | refine inBlock_here ?_ | refine inBlock_out rfl ?_ | refine LWp.seq ?_ | refine LWp.region ?_ | refine LWp.block ?_ | refine LWp.exit ?_ | refine LWp.ret ?_ | refine LWp.skip ?_ | refine LOps.valA ?_ | refine LOps.outA ?_ | refine LOps.whenA ?_ | refine LOps.pickA ?_ | refine LOps.storeA ?_)
      refine ⟨_, LRes.one rfl, ?_, hle⟩
      rw [show 2 + (1 + (x.op.writes.flatMap wrB).length) = 3 + (x.op.writes.flatMap wrB).length by omega]; rfl
  have h6 : ¬ x.op.kind = 6 := by simpa using h
  have hc24 : ((x.op.kind == 2) || (x.op.kind == 4)) = decide (x.op.kind = 2 ∨ x.op.kind = 4) := by rw [Bool.eq_iff_iff]; simp
  have hc45 : ((x.op.kind == 4) || (x.op.kind == 5)) = decide (x.op.kind = 4 ∨ x.op.kind = 5) := by rw [Bool.eq_iff_iff]; simp
  have hl : (opB x.op).length = 1 + x.op.key.size + (if x.op.kind = 2 ∨ x.op.kind = 4 then 1 + x.op.val.size else 0) + (if x.op.kind = 4 ∨ x.op.kind = 5 then 1 else 0) + (if x.op.had = true then 1 + x.op.old.size else 0) := by
    have i2 := hr.h0
    unfold opB
    by_cases c1 : x.op.kind = 1 ∨ x.op.kind = 3
    · rw [if_pos c1, if_neg (by omega), if_neg (by omega), i2 (by omega), textB_len]; simp; omega
    rw [if_neg c1]
    by_cases c2 : x.op.kind = 2
    · rw [if_pos c2, if_pos (show x.op.kind = 2 ∨ x.op.kind = 4 from .inl c2), if_neg (show ¬ (x.op.kind = 4 ∨ x.op.kind = 5) by omega), i2 (by omega), List.length_append, textB_len, textB_len]; simp; omega
    rw [if_neg c2]
    by_cases c4 : x.op.kind = 4
    · have e1 : (x.op.kind = 2 ∨ x.op.kind = 4) := Or.inr c4
      have e2 : (x.op.kind = 4 ∨ x.op.kind = 5) := Or.inl c4
      rw [if_pos c4, if_pos e1, if_pos e2, List.length_append, List.length_append, List.length_append, textB_len, textB_len, markB_len]
      cases x.op.had <;> simp [textB_len] <;> omega
    rw [if_neg c4]
    have c5 : x.op.kind = 5 := by omega
    rw [if_pos c5, if_neg (show ¬ (x.op.kind = 2 ∨ x.op.kind = 4) by omega), if_pos (show x.op.kind = 4 ∨ x.op.kind = 5 from .inr c5), i2 c4, List.length_append, textB_len, markB_len]; simp; omega
  rw [hlen, hl]
  repeat (first | refine LWp.seq (LWp.cut 21 (fun T' S' => S' = S1 ∧ ∃ (T'' : Nat → TV), T' = over T'' [(3, ptr b3), (6, .one (iv ((3 + x.op.key.size + (if x.op.kind = 2 ∨ x.op.kind = 4 then 1 + x.op.val.size else 0) : Nat) : Int)))]) rfl ?_ ?_) | refine LOps.nil ?_ | refine andThen_normal ?_ | refine andThen_exit ?_ | refine andThen_ret ?_ | refine inBlock_normal ?_ | refine inBlock_ret ?_ | refine inBlock_here ?_ | refine inBlock_out rfl ?_ | refine LWp.seq ?_ | refine LWp.region ?_ | refine LWp.block ?_ | refine LWp.exit ?_ | refine LWp.ret ?_ | refine LWp.skip ?_ | refine LOps.valA ?_ | refine LOps.outA ?_ | refine LOps.whenA ?_ | refine LOps.pickA ?_ | refine LOps.storeA ?_)
  · repeat (first | refine LOps.nil ?_ | refine andThen_normal ?_ | refine andThen_exit ?_ | refine andThen_ret ?_ | refine inBlock_normal ?_ | refine inBlock_ret ?_ | refine inBlock_here ?_ | refine inBlock_out rfl ?_ | refine LWp.seq ?_ | refine LWp.region ?_ | refine LWp.block ?_ | refine LWp.exit ?_ | refine LWp.ret ?_ | refine LWp.skip ?_ | refine LOps.valA ?_ | refine LOps.outA ?_ | refine LOps.whenA ?_ | refine LOps.pickA ?_ | refine LOps.storeA ?_)
    refine LWp.cond rfl (fun h => ?_) (fun h => ?_)
    · have h : ((x.op.kind == 2) || (x.op.kind == 4)) = true := h
      rw [hc24] at h
      rw [if_pos (of_decide_eq_true h)]
      have e : (3 + (x.op.key.size : Int) + 1 + (x.op.val.size : Int)) = ((3 + x.op.key.size + (1 + x.op.val.size) : Nat) : Int) := by omega
      repeat (first | refine LOps.nil ?_ | refine andThen_normal ?_ | refine andThen_exit ?_ | refine andThen_ret ?_ | refine inBlock_normal ?_ | refine inBlock_ret ?_ | refine inBlock_here ?_ | refine inBlock_out rfl ?_ | refine LWp.seq ?_ | refine LWp.region ?_ | refine LWp.block ?_ | refine LWp.exit ?_ | refine LWp.ret ?_ | refine LWp.skip ?_ | refine LOps.valA ?_ | refine LOps.outA ?_ | refine LOps.whenA ?_ | refine LOps.pickA ?_ | refine LOps.storeA ?_)
      rw [e]
      repeat (first | refine LOps.nil ?_ | refine andThen_normal ?_ | refine andThen_exit ?_ | refine andThen_ret ?_ | refine inBlock_normal ?_ | refine inBlock_ret ?_ | refine inBlock_here ?_ | refine inBlock_out rfl ?_ | refine LWp.seq ?_ | refine LWp.region ?_ | refine LWp.block ?_ | refine LWp.exit ?_ | refine LWp.ret ?_ | refine LWp.skip ?_ | refine LOps.valA ?_ | refine LOps.outA ?_ | refine LOps.whenA ?_ | refine LOps.pickA ?_ | refine LOps.storeA ?_)
      exact ⟨rfl, _, holds.over ⟨rfl, rfl, trivial⟩⟩
    · have h : ((x.op.kind == 2) || (x.op.kind == 4)) = false := h
      rw [hc24] at h
      rw [if_neg (of_decide_eq_false h)]
      have e : (3 + (x.op.key.size : Int)) = ((3 + x.op.key.size + 0 : Nat) : Int) := by omega
      repeat (first | refine LOps.nil ?_ | refine andThen_normal ?_ | refine andThen_exit ?_ | refine andThen_ret ?_ | refine inBlock_normal ?_ | refine inBlock_ret ?_ | refine inBlock_here ?_ | refine inBlock_out rfl ?_ | refine LWp.seq ?_ | refine LWp.region ?_ | refine LWp.block ?_ | refine LWp.exit ?_ | refine LWp.ret ?_ | refine LWp.skip ?_ | refine LOps.valA ?_ | refine LOps.outA ?_ | refine LOps.whenA ?_ | refine LOps.pickA ?_ | refine LOps.storeA ?_)
      exact ⟨rfl, _, holds.over ⟨rfl, by rw [← e]; rfl, trivial⟩⟩
  rintro T' S1 ⟨rfl, T'', rfl⟩
  have hA : 3 + x.op.key.size + (if x.op.kind = 2 ∨ x.op.kind = 4 then 1 + x.op.val.size else 0) ≤ 1000 := by split <;> omega
  rw [show ∀ a b c : Nat, 2 + (1 + x.op.key.size + a + b + c) = (3 + x.op.key.size + a) + b + c from fun a b c => by omega]
  generalize 3 + x.op.key.size + (if x.op.kind = 2 ∨ x.op.kind = 4 then 1 + x.op.val.size else 0) = A at hA
  repeat (first | refine LWp.seq (LWp.cut 23 (fun T' S' => S' = S1 ∧ ∃ (T'' : Nat → TV), T' = over T'' [(3, ptr b3), (6, .one (iv ((A + (if x.op.kind = 4 ∨ x.op.kind = 5 then 1 else 0) : Nat) : Int)))]) rfl ?_ ?_) | refine LOps.nil ?_ | refine andThen_normal ?_ | refine andThen_exit ?_ | refine andThen_ret ?_ | refine inBlock_normal ?_ | refine inBlock_ret ?_ | refine inBlock_here ?_ | refine inBlock_out rfl ?_ | refine LWp.seq ?_ | refine LWp.region ?_ | refine LWp.block ?_ | refine LWp.exit ?_ | refine LWp.ret ?_ | refine LWp.skip ?_ | refine LOps.valA ?_ | refine LOps.outA ?_ | refine LOps.whenA ?_ | refine LOps.pickA ?_ | refine LOps.storeA ?_)
  · repeat (first | refine LOps.nil ?_ | refine andThen_normal ?_ | refine andThen_exit ?_ | refine andThen_ret ?_ | refine inBlock_normal ?_ | refine inBlock_ret ?_ | refine inBlock_here ?_ | refine inBlock_out rfl ?_ | refine LWp.seq ?_ | refine LWp.region ?_ | refine LWp.block ?_ | refine LWp.exit ?_ | refine LWp.ret ?_ | refine LWp.skip ?_ | refine LOps.valA ?_ | refine LOps.outA ?_ | refine LOps.whenA ?_ | refine LOps.pickA ?_ | refine LOps.storeA ?_)
    refine LWp.cond rfl (fun h => ?_) (fun h => ?_)
    · have h : ((x.op.kind == 4) || (x.op.kind == 5)) = true := h
      rw [hc45] at h
      rw [if_pos (of_decide_eq_true h)]
      repeat (first | refine LOps.nil ?_ | refine andThen_normal ?_ | refine andThen_exit ?_ | refine andThen_ret ?_ | refine inBlock_normal ?_ | refine inBlock_ret ?_ | refine inBlock_here ?_ | refine inBlock_out rfl ?_ | refine LWp.seq ?_ | refine LWp.region ?_ | refine LWp.block ?_ | refine LWp.exit ?_ | refine LWp.ret ?_ | refine LWp.skip ?_ | refine LOps.valA ?_ | refine LOps.outA ?_ | refine LOps.whenA ?_ | refine LOps.pickA ?_ | refine LOps.storeA ?_)
      exact ⟨rfl, _, holds.over ⟨rfl, rfl, trivial⟩⟩
    · have h : ((x.op.kind == 4) || (x.op.kind == 5)) = false := h
      rw [hc45] at h
      rw [if_neg (of_decide_eq_false h)]
      repeat (first | refine LOps.nil ?_ | refine andThen_normal ?_ | refine andThen_exit ?_ | refine andThen_ret ?_ | refine inBlock_normal ?_ | refine inBlock_ret ?_ | refine inBlock_here ?_ | refine inBlock_out rfl ?_ | refine LWp.seq ?_ | refine LWp.region ?_ | refine LWp.block ?_ | refine LWp.exit ?_ | refine LWp.ret ?_ | refine LWp.skip ?_ | refine LOps.valA ?_ | refine LOps.outA ?_ | refine LOps.whenA ?_ | refine LOps.pickA ?_ | refine LOps.storeA ?_)
      exact ⟨rfl, _, holds.over ⟨rfl, rfl, trivial⟩⟩
  rintro T' S1 ⟨rfl, T'', rfl⟩
  have hB : A + (if x.op.kind = 4 ∨ x.op.kind = 5 then 1 else 0) ≤ 1001 := by split <;> omega
  generalize A + (if x.op.kind = 4 ∨ x.op.kind = 5 then 1 else 0) = B at hB
  repeat (first | refine LWp.seq (LWp.cut 25 (fun T' S' => S' = S1 ∧ ∃ (T'' : Nat → TV), T' = over T'' [(6, .one (iv ((B + (if x.op.had = true then 1 + x.op.old.size else 0) : Nat) : Int)))]) rfl ?_ ?_) | refine LOps.nil ?_ | refine andThen_normal ?_ | refine andThen_exit ?_ | refine andThen_ret ?_ | refine inBlock_normal ?_ | refine inBlock_ret ?_ | refine inBlock_here ?_ | refine inBlock_out rfl ?_ | refine LWp.seq ?_ | refine LWp.region ?_ | refine LWp.block ?_ | refine LWp.exit ?_ | refine LWp.ret ?_ | refine LWp.skip ?_ | refine LOps.valA ?_ | refine LOps.outA ?_ | refine LOps.whenA ?_ | refine LOps.pickA ?_ | refine LOps.storeA ?_)
  · repeat (first | refine LOps.nil ?_ | refine andThen_normal ?_ | refine andThen_exit ?_ | refine andThen_ret ?_ | refine inBlock_normal ?_ | refine inBlock_ret ?_ | refine inBlock_here ?_ | refine inBlock_out rfl ?_ | refine LWp.seq ?_ | refine LWp.region ?_ | refine LWp.block ?_ | refine LWp.exit ?_ | refine LWp.ret ?_ | refine LWp.skip ?_ | refine LOps.valA ?_ | refine LOps.outA ?_ | refine LOps.whenA ?_ | refine LOps.pickA ?_ | refine LOps.storeA ?_)
    refine LWp.cond rfl (fun h => ?_) (fun h => ?_)
    · have h : x.op.had = true := h
      rw [if_pos h]
      have e : ((B : Int) + 1 + (x.op.old.size : Int)) = ((B + (1 + x.op.old.size) : Nat) : Int) := by omega
      repeat (first | refine LOps.nil ?_ | refine andThen_normal ?_ | refine andThen_exit ?_ | refine andThen_ret ?_ | refine inBlock_normal ?_ | refine inBlock_ret ?_ | refine inBlock_here ?_ | refine inBlock_out rfl ?_ | refine LWp.seq ?_ | refine LWp.region ?_ | refine LWp.block ?_ | refine LWp.exit ?_ | refine LWp.ret ?_ | refine LWp.skip ?_ | refine LOps.valA ?_ | refine LOps.outA ?_ | refine LOps.whenA ?_ | refine LOps.pickA ?_ | refine LOps.storeA ?_)
      rw [e]
      repeat (first | refine LOps.nil ?_ | refine andThen_normal ?_ | refine andThen_exit ?_ | refine andThen_ret ?_ | refine inBlock_normal ?_ | refine inBlock_ret ?_ | refine inBlock_here ?_ | refine inBlock_out rfl ?_ | refine LWp.seq ?_ | refine LWp.region ?_ | refine LWp.block ?_ | refine LWp.exit ?_ | refine LWp.ret ?_ | refine LWp.skip ?_ | refine LOps.valA ?_ | refine LOps.outA ?_ | refine LOps.whenA ?_ | refine LOps.pickA ?_ | refine LOps.storeA ?_)
      exact ⟨rfl, _, holds.over ⟨rfl, trivial⟩⟩
    · have h : x.op.had = false := h
      rw [if_neg (by rw [h]; simp)]
      repeat (first | refine LOps.nil ?_ | refine andThen_normal ?_ | refine andThen_exit ?_ | refine andThen_ret ?_ | refine inBlock_normal ?_ | refine inBlock_ret ?_ | refine inBlock_here ?_ | refine inBlock_out rfl ?_ | refine LWp.seq ?_ | refine LWp.region ?_ | refine LWp.block ?_ | refine LWp.exit ?_ | refine LWp.ret ?_ | refine LWp.skip ?_ | refine LOps.valA ?_ | refine LOps.outA ?_ | refine LOps.whenA ?_ | refine LOps.pickA ?_ | refine LOps.storeA ?_)
      exact ⟨rfl, _, holds.over ⟨rfl, trivial⟩⟩
  rintro T' S1 ⟨rfl, T'', rfl⟩
  repeat (first | refine LOps.nil ?_ | refine andThen_normal ?_ | refine andThen_exit ?_ | refine andThen_ret ?_ | refine inBlock_normal ?_ | refine inBlock_ret ?_ | refine inBlock_here ?_ | refine inBlock_out rfl ?_ | refine LWp.seq ?_ | refine LWp.region ?_ | refine LWp.block ?_ | refine LWp.exit ?_ | refine LWp.ret ?_ | refine LWp.skip ?_ | refine LOps.valA ?_ | refine LOps.outA ?_ | refine LOps.whenA ?_ | refine LOps.pickA ?_ | refine LOps.storeA ?_)
  exact ⟨_, LRes.one rfl, rfl, hle⟩

set_option maxHeartbeats 8000000 in
theorem refEncode_F {G : Ctx} (hP : G.P = Try.prog) (l : List En) (hl : l.length ≤ 100000) (hx : ∀ x ∈ l, EnB x) : LFun G 16 [.one (.sl .sh (l.map enL))] (.tup [.one (iv ((encS l).1.length : Nat)), .one (iv ((encS l).2 : Nat))]) := LFun.of fun S => by
  have hD : TabOK G.P D := by rw [hP]; exact hD0
  have hml : (l.map enL).length = l.length := List.length_map ..
  refine LCalls.enter (fn := Try.f16) (by rw [hP]; exact Try.func16) rfl rfl ?_
  repeat (first | refine LOps.nil ?_ | refine andThen_normal ?_ | refine andThen_exit ?_ | refine andThen_ret ?_ | refine inBlock_normal ?_ | refine inBlock_ret ?_ | refine inBlock_here ?_ | refine inBlock_out rfl ?_ | refine LWp.seq ?_ | refine LWp.region ?_ | refine LWp.block ?_ | refine LWp.exit ?_ | refine LWp.ret ?_ | refine LWp.skip ?_ | refine LOps.valA ?_ | refine LOps.outA ?_ | refine LOps.whenA ?_ | refine LOps.pickA ?_ | refine LOps.storeA ?_)
  refine LWp.loop (fun k T S' => S' = S ∧ ∃ (T' : Nat → TV) (j : Nat), j ≤ l.length ∧ k = l.length - j ∧ (∀ x ∈ l.take j, enOK x) ∧ T = over T' [(0, .one (.sl .sh (l.map enL))), (4, .one (iv ((lBytes (l.take j)).length : Nat))), (5, .one (iv (j : Nat)))]) l.length ?_ ?_
  · exact ⟨rfl, _, 0, by omega, rfl, by simp, holds.over ⟨rfl, rfl, rfl, trivial⟩⟩
  rintro k T S1 ⟨rfl, T', j, hj, rfl, hok, rfl⟩
  repeat (first | refine LOps.nil ?_ | refine andThen_normal ?_ | refine andThen_exit ?_ | refine andThen_ret ?_ | refine inBlock_normal ?_ | refine inBlock_ret ?_ | refine inBlock_here ?_ | refine inBlock_out rfl ?_ | refine LWp.seq ?_ | refine LWp.region ?_ | refine LWp.block ?_ | refine LWp.exit ?_ | refine LWp.ret ?_ | refine LWp.skip ?_ | refine LOps.valA ?_ | refine LOps.outA ?_ | refine LOps.whenA ?_ | refine LOps.pickA ?_ | refine LOps.storeA ?_)
  refine LWp.cond rfl (fun h => ?_) (fun h => ?_)
  · have hlt : j < l.length := by simpa using h
    have hr := refRight_F hP l[j] (hx _ (List.getElem_mem hlt)).n
    repeat (first | refine LOps.nil ?_ | refine andThen_normal ?_ | refine andThen_exit ?_ | refine andThen_ret ?_ | refine inBlock_normal ?_ | refine inBlock_ret ?_ | refine inBlock_here ?_ | refine inBlock_out rfl ?_ | refine LWp.seq ?_ | refine LWp.region ?_ | refine LWp.block ?_ | refine LWp.exit ?_ | refine LWp.ret ?_ | refine LWp.skip ?_ | refine LOps.val (LVal.call rfl rfl (by rw [hP]; exact Try.func22) rfl (by decide) (hr)) rfl rfl rfl ?_ | refine LOps.whenC (LVal.call rfl rfl (by rw [hP]; exact Try.func22) rfl (by decide) (hr)) ?_ | refine LOps.valA ?_ | refine LOps.outA ?_ | refine LOps.whenA ?_ | refine LOps.pickA ?_ | refine LOps.storeA ?_)
    refine LWp.cond rfl (fun h => ?_) (fun h => ?_)
    · have hno : okB l[j] = false := by
        have h : (!okB l[j]) = true := h
        cases hq : okB l[j] with
        | false => rfl
        | true => rw [hq] at h; cases h
      have he : encS l = ([], 1) := by
        unfold encS
        rw [if_neg]
        rw [List.all_eq_true]
        intro hall
        have := hall _ (List.getElem_mem hlt)
        rw [hno] at this; cases this
      rw [he]
      repeat (first | refine LOps.nil ?_ | refine andThen_normal ?_ | refine andThen_exit ?_ | refine andThen_ret ?_ | refine inBlock_normal ?_ | refine inBlock_ret ?_ | refine inBlock_here ?_ | refine inBlock_out rfl ?_ | refine LWp.seq ?_ | refine LWp.region ?_ | refine LWp.block ?_ | refine LWp.exit ?_ | refine LWp.ret ?_ | refine LWp.skip ?_ | refine LOps.valA ?_ | refine LOps.outA ?_ | refine LOps.whenA ?_ | refine LOps.pickA ?_ | refine LOps.storeA ?_)
      exact ⟨_, LRes.two rfl, rfl, .refl _⟩
    · have hyes : okB l[j] = true := by
        have h : (!okB l[j]) = false := h
        cases hq : okB l[j] with
        | true => rfl
        | false => rw [hq] at h; cases h
      have hokj := okB_iff.1 hyes
      have hs := refSize_F hP l[j] hokj
      have hlen := lBytes_le hok
      have htl : (l.take j).length ≤ 100000 := by rw [List.length_take]; omega
      have hl2 := enBytes_len hokj
      have htm : (l.take j).length * 160000 ≤ 100000 * 160000 := Nat.mul_le_mul_right _ htl
      have hnx : lBytes (l.take (j + 1)) = lBytes (l.take j) ++ enBytes l[j] := by
        rw [List.take_succ_eq_append_getElem hlt, lBytes_app, lBytes_one]
      have e : (((lBytes (l.take j)).length : Nat) : Int) + ((enBytes l[j]).length : Nat) = (((lBytes (l.take (j + 1))).length : Nat) : Int) := by rw [hnx, List.length_append]; omega
      repeat (first | refine LOps.nil ?_ | refine andThen_normal ?_ | refine andThen_exit ?_ | refine andThen_ret ?_ | refine inBlock_normal ?_ | refine inBlock_ret ?_ | refine inBlock_here ?_ | refine inBlock_out rfl ?_ | refine LWp.seq ?_ | refine LWp.region ?_ | refine LWp.block ?_ | refine LWp.exit ?_ | refine LWp.ret ?_ | refine LWp.skip ?_ | refine LOps.val (LVal.call rfl rfl (by rw [hP]; exact Try.func23) rfl (by decide) (hs)) rfl rfl rfl ?_ | refine LOps.whenC (LVal.call rfl rfl (by rw [hP]; exact Try.func23) rfl (by decide) (hs)) ?_ | refine LOps.valA ?_ | refine LOps.outA ?_ | refine LOps.whenA ?_ | refine LOps.pickA ?_ | refine LOps.storeA ?_)
      rw [e]
      repeat (first | refine LOps.nil ?_ | refine andThen_normal ?_ | refine andThen_exit ?_ | refine andThen_ret ?_ | refine inBlock_normal ?_ | refine inBlock_ret ?_ | refine inBlock_here ?_ | refine inBlock_out rfl ?_ | refine LWp.seq ?_ | refine LWp.region ?_ | refine LWp.block ?_ | refine LWp.exit ?_ | refine LWp.ret ?_ | refine LWp.skip ?_ | refine LOps.valA ?_ | refine LOps.outA ?_ | refine LOps.whenA ?_ | refine LOps.pickA ?_ | refine LOps.storeA ?_)
      refine ⟨l.length - (j + 1), by omega, rfl, _, j + 1, by omega, rfl, fun x hxm => ?_, holds.over ⟨rfl, rfl, rfl, trivial⟩⟩
      rw [List.take_succ_eq_append_getElem hlt, List.mem_append] at hxm
      rcases hxm with hxm | hxm
      · exact hok x hxm
      · obtain rfl : x = l[j] := (by simpa using hxm)
        exact hokj
  · have hge : j = l.length := by simp at h; omega
    subst hge
    rw [List.take_length] at hok
    have hall : l.all okB = true := by
      rw [List.all_eq_true]
      exact fun x hx => okB_iff.2 (hok x hx)
    rw [List.take_length]
    repeat (first | refine LOps.nil ?_ | refine andThen_normal ?_ | refine andThen_exit ?_ | refine andThen_ret ?_ | refine inBlock_normal ?_ | refine inBlock_ret ?_ | refine inBlock_here ?_ | refine inBlock_out rfl ?_ | refine LWp.seq ?_ | refine LWp.region ?_ | refine LWp.block ?_ | refine LWp.exit ?_ | refine LWp.ret ?_ | refine LWp.skip ?_ | refine LOps.valA ?_ | refine LOps.outA ?_ | refine LOps.whenA ?_ | refine LOps.pickA ?_ | refine LOps.storeA ?_)
    refine LWp.cond rfl (fun h => ?_) (fun h => ?_)
    · have hgt : 16384 < (lBytes l).length := by
        have h : decide (((lBytes l).length : Int) > 16384) = true := h
        simp at h; omega
      have he : encS l = ([], 3) := by unfold encS; rw [if_pos hall, if_neg (by omega)]
      rw [he]
      repeat (first | refine LOps.nil ?_ | refine andThen_normal ?_ | refine andThen_exit ?_ | refine andThen_ret ?_ | refine inBlock_normal ?_ | refine inBlock_ret ?_ | refine inBlock_here ?_ | refine inBlock_out rfl ?_ | refine LWp.seq ?_ | refine LWp.region ?_ | refine LWp.block ?_ | refine LWp.exit ?_ | refine LWp.ret ?_ | refine LWp.skip ?_ | refine LOps.valA ?_ | refine LOps.outA ?_ | refine LOps.whenA ?_ | refine LOps.pickA ?_ | refine LOps.storeA ?_)
      exact ⟨_, LRes.two rfl, rfl, .refl _⟩
    · have hgt : (lBytes l).length ≤ 16384 := by
        have h : decide (((lBytes l).length : Int) > 16384) = false := h
        simp at h; omega
      have he : encS l = (lBytes l, 0) := by unfold encS; rw [if_pos hall, if_pos hgt]
      rw [he]
      repeat (first | refine LOps.nil ?_ | refine andThen_normal ?_ | refine andThen_exit ?_ | refine andThen_ret ?_ | refine inBlock_normal ?_ | refine inBlock_ret ?_ | refine inBlock_here ?_ | refine inBlock_out rfl ?_ | refine LWp.seq ?_ | refine LWp.region ?_ | refine LWp.block ?_ | refine LWp.exit ?_ | refine LWp.ret ?_ | refine LWp.skip ?_ | refine LOps.valA ?_ | refine LOps.outA ?_ | refine LOps.whenA ?_ | refine LOps.pickA ?_ | refine LOps.storeA ?_)
      exact ⟨_, LRes.two rfl, rfl, .refl _⟩

set_option maxHeartbeats 8000000 in
theorem writes_L {G : Ctx} (hP : G.P = Try.prog) (l : List En) (ht : ∀ x ∈ l, EnT x) (S : LS) : LCalls G 5 [.one (.sl .sh (l.map enL))] (fun r _ => r = .one (bv true)) S := by
  have hD : TabOK G.P D := by rw [hP]; exact hD0
  have hml : (l.map enL).length = l.length := List.length_map ..
  refine LCalls.enter (fn := Try.f5) (by rw [hP]; exact Try.func5) rfl rfl ?_
  repeat (first | refine LOps.nil ?_ | refine andThen_normal ?_ | refine andThen_exit ?_ | refine andThen_ret ?_ | refine inBlock_normal ?_ | refine inBlock_ret ?_ | refine inBlock_here ?_ | refine inBlock_out rfl ?_ | refine LWp.seq ?_ | refine LWp.region ?_ | refine LWp.block ?_ | refine LWp.exit ?_ | refine LWp.ret ?_ | refine LWp.skip ?_ | refine LOps.val (LVal.call rfl rfl (by rw [hP]; exact Try.func10) rfl (by decide) (awake_F hP)) rfl rfl rfl ?_ | refine LOps.whenC (LVal.call rfl rfl (by rw [hP]; exact Try.func10) rfl (by decide) (awake_F hP)) ?_ | refine LOps.valA ?_ | refine LOps.outA ?_ | refine LOps.whenA ?_ | refine LOps.pickA ?_ | refine LOps.storeA ?_)
  refine LWp.cond rfl (fun h => ?_) (fun h => ?_)
  · simp at h
  repeat (first | refine LOps.nil ?_ | refine andThen_normal ?_ | refine andThen_exit ?_ | refine andThen_ret ?_ | refine inBlock_normal ?_ | refine inBlock_ret ?_ | refine inBlock_here ?_ | refine inBlock_out rfl ?_ | refine LWp.seq ?_ | refine LWp.region ?_ | refine LWp.block ?_ | refine LWp.exit ?_ | refine LWp.ret ?_ | refine LWp.skip ?_ | refine LOps.val (LVal.call rfl rfl (by rw [hP]; exact Try.func15) rfl (by decide) (great_F hP l)) rfl rfl rfl ?_ | refine LOps.whenC (LVal.call rfl rfl (by rw [hP]; exact Try.func15) rfl (by decide) (great_F hP l)) ?_ | refine LOps.valA ?_ | refine LOps.outA ?_ | refine LOps.whenA ?_ | refine LOps.pickA ?_ | refine LOps.storeA ?_)
  refine LWp.cond rfl (fun h => ?_) (fun h => ?_)
  · repeat (first | refine LOps.nil ?_ | refine andThen_normal ?_ | refine andThen_exit ?_ | refine andThen_ret ?_ | refine inBlock_normal ?_ | refine inBlock_ret ?_ | refine inBlock_here ?_ | refine inBlock_out rfl ?_ | refine LWp.seq ?_ | refine LWp.region ?_ | refine LWp.block ?_ | refine LWp.exit ?_ | refine LWp.ret ?_ | refine LWp.skip ?_ | refine LOps.valA ?_ | refine LOps.outA ?_ | refine LOps.whenA ?_ | refine LOps.pickA ?_ | refine LOps.storeA ?_)
    exact ⟨_, LRes.one rfl, rfl⟩
  obtain ⟨hl3, hsl⟩ := greatS_small h
  clear h
  have hx : ∀ x ∈ l, EnB x := fun x hx => (hsl x hx).b (ht x hx)
  have he := encode_F hP l (by omega) hx
  have hf := refEncode_F hP l (by omega) hx
  have hlx := encS_len l
  have hbx := bL_len (encS l).1
  have hd := refDecode_F hP (encS l).1 (by omega)
  have hs1 := same_F hP (decodeS (encS l).1) l (by have := decodeS_len (encS l).1; omega) (decodeS_writes _)
  repeat (first | refine LOps.nil ?_ | refine andThen_normal ?_ | refine andThen_exit ?_ | refine andThen_ret ?_ | refine inBlock_normal ?_ | refine inBlock_ret ?_ | refine inBlock_here ?_ | refine inBlock_out rfl ?_ | refine LWp.seq ?_ | refine LWp.region ?_ | refine LWp.block ?_ | refine LWp.exit ?_ | refine LWp.ret ?_ | refine LWp.skip ?_ | refine LOps.val (LVal.call rfl rfl (by rw [hP]; exact Try.func14) rfl (by decide) (he)) rfl rfl rfl ?_ | refine LOps.val (LVal.call rfl rfl (by rw [hP]; exact Try.func16) rfl (by decide) (hf)) rfl rfl rfl ?_ | refine LOps.whenC (LVal.call rfl rfl (by rw [hP]; exact Try.func14) rfl (by decide) (he)) ?_ | refine LOps.whenC (LVal.call rfl rfl (by rw [hP]; exact Try.func16) rfl (by decide) (hf)) ?_ | refine LOps.valA ?_ | refine LOps.outA ?_ | refine LOps.whenA ?_ | refine LOps.pickA ?_ | refine LOps.storeA ?_)
  refine LWp.cond rfl (fun h => ?_) (fun h => ?_)
  · exfalso
    have h : (false || !(((bL (encS l).1).length : Int) == (((encS l).1.length : Nat) : Int))) = true := h
    rw [hbx] at h
    simp at h
  repeat (first | refine LOps.nil ?_ | refine andThen_normal ?_ | refine andThen_exit ?_ | refine andThen_ret ?_ | refine inBlock_normal ?_ | refine inBlock_ret ?_ | refine inBlock_here ?_ | refine inBlock_out rfl ?_ | refine LWp.seq ?_ | refine LWp.region ?_ | refine LWp.block ?_ | refine LWp.exit ?_ | refine LWp.ret ?_ | refine LWp.skip ?_ | refine LOps.val (LVal.call rfl rfl (by rw [hP]; exact Try.func13) rfl (by decide) (hd)) rfl rfl rfl ?_ | refine LOps.val (LVal.call rfl rfl (by rw [hP]; exact Try.func12) rfl (by decide) (hs1)) rfl rfl rfl ?_ | refine LOps.whenC (LVal.call rfl rfl (by rw [hP]; exact Try.func13) rfl (by decide) (hd)) ?_ | refine LOps.whenC (LVal.call rfl rfl (by rw [hP]; exact Try.func12) rfl (by decide) (hs1)) ?_ | refine LOps.valA ?_ | refine LOps.outA ?_ | refine LOps.whenA ?_ | refine LOps.pickA ?_ | refine LOps.storeA ?_)
  refine ⟨_, LRes.one rfl, ?_⟩
  show TV.one (bv (!((((encS l).2 : Nat) : Int) == 0) || decide (decodeS (encS l).1 = l))) = _
  by_cases h0 : (encS l).2 = 0
  · obtain ⟨k1, k2, k3⟩ := encS_ok h0
    rw [k3, decodeS_list k1 k2]; simp
  · have : ((((encS l).2 : Nat) : Int) == 0) = false := by simp; omega
    rw [this]; rfl
end Go.Proofs.Ytbifiagpmoakdaa.LF

namespace Go.Proofs.Ytbifiagpmoakdaa
open Go.RowKit LF
theorem scriptWrites_walk (W : World) (v0 : Value) (l0 : List LV) (y0 : Typed LF.D 24 l0) (g0 : RepT (G0 Try.prog W) W (allCells W) (argTV ti24 l0) v0) :
    Calls Try.prog 5 #[v0] W fun e W' => e = .returned (.bool true) ∧ Below W.heap.size W W' := by
  obtain ⟨es, rfl, ht⟩ := typed_ens y0
  exact law_calls (fun G S h => writes_L h es ht S) (.cons (vs := []) g0 .nil)
end Go.Proofs.Ytbifiagpmoakdaa
