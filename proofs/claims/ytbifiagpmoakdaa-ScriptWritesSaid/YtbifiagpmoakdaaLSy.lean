/- The document's Right, size. -/
import Derived.Test.YtbifiagpmoakdaaLSv
set_option linter.unusedVariables false
set_option linter.unusedSimpArgs false
namespace Go.Proofs.Ytbifiagpmoakdaa.LF
open Go.RowKit
set_option linter.unusedVariables false

theorem refIn_F {G : Ctx} (hP : G.P = Try.prog) (n m : Int) : LFun G 32 [.one (iv n), .one (iv m)] (.one (bv (decide (n ≥ 0) && decide (n ≤ m)))) := LFun.of fun S => by
  have hD : TabOK G.P D := by rw [hP]; exact hD0
  refine LCalls.enter (fn := Try.f32) (by rw [hP]; exact Try.func32) rfl rfl ?_
  repeat (first | refine LOps.nil ?_ | refine andThen_normal ?_ | refine andThen_exit ?_ | refine andThen_ret ?_ | refine inBlock_normal ?_ | refine inBlock_ret ?_ | refine inBlock_here ?_ | refine inBlock_out rfl ?_ | refine LWp.seq ?_ | refine LWp.region ?_ | refine LWp.block ?_ | refine LWp.exit ?_ | refine LWp.ret ?_ | refine LWp.skip ?_ | refine LOps.valA ?_ | refine LOps.outA ?_ | refine LOps.whenA ?_ | refine LOps.pickA ?_ | refine LOps.storeA ?_)
  exact ⟨_, LRes.one rfl, rfl, .refl _⟩

structure OpR (o : OpV) : Prop where
  kind : 1 ≤ o.kind ∧ o.kind ≤ 6
  key : o.key.size ≤ 255
  val : o.val.size ≤ 255
  old : o.old.size ≤ 255
  n : o.writes.length ≤ 255
  v0 : ¬ o.kind = 2 → ¬ o.kind = 4 → o.val = noBytes
  h0 : ¬ o.kind = 4 → o.had = false
  o0 : o.had = false → o.old = noBytes
  a0 : ¬ o.kind = 5 → o.after = false
  w0 : ¬ o.kind = 6 → o.writes = []
  k0 : o.kind = 6 → o.key = noBytes
  ws : ∀ w ∈ o.writes, wrOK w

theorem opOK_R {o : OpV} : opOK o ↔ OpR o := by
  obtain ⟨k, key, val, old, had, after, ws⟩ := o
  constructor
  · intro h
    unfold opOK at h
    simp only [noOp, OpV.mk.injEq, true_and, and_true] at h
    split at h
    · obtain ⟨⟨rfl, rfl, rfl, rfl, rfl⟩, h2⟩ := h
      exact ⟨by simp only; omega, by simp only; omega, by simp [nb0], by simp [nb0], by simp, fun _ _ => rfl, fun _ => rfl, fun _ => rfl, fun _ => rfl, fun _ => rfl, fun e => by simp only at e; omega, by simp⟩
    split at h
    · obtain ⟨⟨rfl, rfl, rfl, rfl⟩, h2, h3⟩ := h
      exact ⟨by simp only; omega, by simp only; omega, by simp only; omega, by simp [nb0], by simp, fun e _ => absurd (by assumption) e, fun _ => rfl, fun _ => rfl, fun _ => rfl, fun _ => rfl, fun e => by simp only at e; omega, by simp⟩
    split at h
    · obtain ⟨⟨rfl, rfl⟩, h2, h3, h4, h5⟩ := h
      exact ⟨by simp only; omega, by simp only; omega, by simp only; omega, by simp only; omega, by simp, fun _ e => absurd (by assumption) e, fun e => absurd (by assumption) e, h5, fun _ => rfl, fun _ => rfl, fun e => by simp only at e; omega, by simp⟩
    split at h
    · obtain ⟨⟨rfl, rfl, rfl, rfl⟩, h2⟩ := h
      exact ⟨by simp only; omega, by simp only; omega, by simp [nb0], by simp [nb0], by simp, fun _ _ => rfl, fun _ => rfl, fun _ => rfl, fun e => absurd (by assumption) e, fun _ => rfl, fun e => by simp only at e; omega, by simp⟩
    split at h
    · obtain ⟨⟨rfl, rfl, rfl, rfl, rfl⟩, h2, h3⟩ := h
      exact ⟨by simp only; omega, by simp [nb0], by simp [nb0], by simp [nb0], by simp only; omega, fun _ _ => rfl, fun _ => rfl, fun _ => rfl, fun _ => rfl, fun e => absurd (by assumption) e, fun _ => rfl, h3⟩
    · exact h.elim
  · intro h
    have hk := h.kind
    have h1 := h.key
    have h2 := h.val
    have h3 := h.old
    have h4 := h.n
    have h5 := h.v0
    have h6 := h.h0
    have h7 := h.o0
    have h8 := h.a0
    have h9 := h.w0
    have h10 := h.k0
    have h11 := h.ws
    simp only at hk h1 h2 h3 h4 h5 h6 h7 h8 h9 h10 h11
    clear h
    unfold opOK
    simp only [noOp, OpV.mk.injEq, true_and, and_true]
    by_cases c1 : k = 1 ∨ k = 3
    · rw [if_pos c1]
      have e := h6 (by omega)
      exact ⟨⟨h5 (by omega) (by omega), h7 e, e, h8 (by omega), h9 (by omega)⟩, by omega⟩
    rw [if_neg c1]
    by_cases c2 : k = 2
    · rw [if_pos c2]
      have e := h6 (by omega)
      exact ⟨⟨h7 e, e, h8 (by omega), h9 (by omega)⟩, by omega, by omega⟩
    rw [if_neg c2]
    by_cases c4 : k = 4
    · rw [if_pos c4]
      exact ⟨⟨h8 (by omega), h9 (by omega)⟩, by omega, by omega, by omega, h7⟩
    rw [if_neg c4]
    by_cases c5 : k = 5
    · rw [if_pos c5]
      have e := h6 (by omega)
      exact ⟨⟨h5 (by omega) (by omega), h7 e, e, h9 (by omega)⟩, by omega⟩
    rw [if_neg c5]
    have c6 : k = 6 := by omega
    rw [if_pos c6]
    have e := h6 (by omega)
    exact ⟨⟨h10 c6, h5 (by omega) (by omega), h7 e, e, h8 (by omega)⟩, by omega, h11⟩
theorem enOK_1 {x : En} (h : x.kind = 1) : enOK x ↔ x.a = 0 ∧ x.b = 0 ∧ OpR x.op := by
  unfold enOK
  rw [if_pos h, opOK_R]
  obtain ⟨k, a, b, o⟩ := x
  simp only [En.mk.injEq, true_and, and_true]
  constructor
  · rintro ⟨⟨h1, h2⟩, h3⟩; exact ⟨h1, h2, h3⟩
  · rintro ⟨h1, h2, h3⟩; exact ⟨⟨h1, h2⟩, h3⟩
theorem enOK_op {x : En} (h : ¬ x.kind = 1) (hx : enOK x) : x.op = noOp := by
  unfold enOK at hx
  rw [if_neg h] at hx
  split at hx
  · rw [hx.1]
  split at hx
  · rw [hx.1]
  split at hx
  · rw [hx.1]
  split at hx
  · rw [hx.1]
  · exact hx.elim
theorem okB_of {x : En} {b : Bool} (h : b = true ↔ enOK x) : TV.one (bv b) = TV.one (bv (okB x)) := by
  have : b = okB x := by rw [Bool.eq_iff_iff, h, okB_iff]
  rw [this]
theorem nb_dec {s : ByteArray} : decide (s = ({ data := #[] } : ByteArray)) = decide (s = noBytes) := rfl

set_option maxHeartbeats 16000000 in
theorem refRight_F {G : Ctx} (hP : G.P = Try.prog) (x : En) (hw : x.op.writes.length ≤ 1000000) : LFun G 22 [.agg (enL x)] (.one (bv (okB x))) := LFun.of fun S => by
  have hD : TabOK G.P D := by rw [hP]; exact hD0
  have hmw : (x.op.writes.map wrL).length = x.op.writes.length := List.length_map ..
  refine LCalls.enter (fn := Try.f22) (by rw [hP]; exact Try.func22) rfl rfl ?_
  repeat (first | refine LOps.nil ?_ | refine andThen_normal ?_ | refine andThen_exit ?_ | refine andThen_ret ?_ | refine inBlock_normal ?_ | refine inBlock_ret ?_ | refine inBlock_here ?_ | refine inBlock_out rfl ?_ | refine LWp.seq ?_ | refine LWp.region ?_ | refine LWp.block ?_ | refine LWp.exit ?_ | refine LWp.ret ?_ | refine LWp.skip ?_ | refine LOps.valA ?_ | refine LOps.outA ?_ | refine LOps.whenA ?_ | refine LOps.pickA ?_ | refine LOps.storeA ?_)
  refine LOps.do (LDo.box rfl rfl) rfl rfl rfl ?_
  rintro _ _ ⟨b1, hb1, rfl, rfl⟩
  have k1 : (S.newBox b1 (enL x)).box b1 = some (enL x) := box_new _ _ _
  have le1 : S.le (S.newBox b1 (enL x)) := .newBox (.refl _) hb1 _
  repeat (first | refine LOps.nil ?_ | refine andThen_normal ?_ | refine andThen_exit ?_ | refine andThen_ret ?_ | refine inBlock_normal ?_ | refine inBlock_ret ?_ | refine inBlock_here ?_ | refine inBlock_out rfl ?_ | refine LWp.seq ?_ | refine LWp.region ?_ | refine LWp.block ?_ | refine LWp.exit ?_ | refine LWp.ret ?_ | refine LWp.skip ?_ | refine LOps.valA ?_ | refine LOps.outA ?_ | refine LOps.whenA ?_ | refine LOps.pickA ?_ | refine LOps.storeA ?_)
  refine LOps.do (LDo.alloc hD rfl rfl rfl) rfl rfl rfl ?_
  rintro _ _ ⟨b3, hb3, rfl, rfl⟩
  have n13 : b1 ≠ b3 := fresh_ne hb3 k1
  have s3 := le1.none hb3
  repeat (first | refine LOps.gen (fun S1 => S.le S1 ∧ S1.box b1 = some (enL x) ∧ S1.box b3 = some (opL x.op)) ⟨(le1.newBox hb3 _).setBox s3 _, (box_set_ne _ _ n13).trans ((box_new_ne _ _ n13).trans k1), box_set _ _ _⟩ ?_ | refine LOps.nil ?_ | refine andThen_normal ?_ | refine andThen_exit ?_ | refine andThen_ret ?_ | refine inBlock_normal ?_ | refine inBlock_ret ?_ | refine inBlock_here ?_ | refine inBlock_out rfl ?_ | refine LWp.seq ?_ | refine LWp.region ?_ | refine LWp.block ?_ | refine LWp.exit ?_ | refine LWp.ret ?_ | refine LWp.skip ?_ | refine LOps.valA ?_ | refine LOps.outA ?_ | refine LOps.whenA ?_ | refine LOps.pickA ?_ | refine LOps.storeA ?_)
  clear k1 le1 hb1 hb3 s3
  rintro S1 ⟨hle, k1, k3⟩
  repeat (first | refine LOps.nil ?_ | refine andThen_normal ?_ | refine andThen_exit ?_ | refine andThen_ret ?_ | refine inBlock_normal ?_ | refine inBlock_ret ?_ | refine inBlock_here ?_ | refine inBlock_out rfl ?_ | refine LWp.seq ?_ | refine LWp.region ?_ | refine LWp.block ?_ | refine LWp.exit ?_ | refine LWp.ret ?_ | refine LWp.skip ?_ | refine LOps.valA ?_ | refine LOps.outA ?_ | refine LOps.whenA ?_ | refine LOps.pickA ?_ | refine LOps.storeA ?_)
  refine LWp.cond rfl (fun h => ?_) (fun h => ?_)
  · have hk1 : ¬ x.kind = 1 := by simpa using h
    clear h
    repeat (first | refine LOps.nil ?_ | refine andThen_normal ?_ | refine andThen_exit ?_ | refine andThen_ret ?_ | refine inBlock_normal ?_ | refine inBlock_ret ?_ | refine inBlock_here ?_ | refine inBlock_out rfl ?_ | refine LWp.seq ?_ | refine LWp.region ?_ | refine LWp.block ?_ | refine LWp.exit ?_ | refine LWp.ret ?_ | refine LWp.skip ?_ | refine LOps.valA ?_ | refine LOps.outA ?_ | refine LOps.whenA ?_ | refine LOps.pickA ?_ | refine LOps.storeA ?_)
    refine LWp.cond rfl (fun h => ?_) (fun h => ?_)
    · repeat (first | refine LOps.nil ?_ | refine andThen_normal ?_ | refine andThen_exit ?_ | refine andThen_ret ?_ | refine inBlock_normal ?_ | refine inBlock_ret ?_ | refine inBlock_here ?_ | refine inBlock_out rfl ?_ | refine LWp.seq ?_ | refine LWp.region ?_ | refine LWp.block ?_ | refine LWp.exit ?_ | refine LWp.ret ?_ | refine LWp.skip ?_ | refine LOps.valA ?_ | refine LOps.outA ?_ | refine LOps.whenA ?_ | refine LOps.pickA ?_ | refine LOps.storeA ?_)
      refine ⟨_, LRes.one rfl, okB_of ⟨fun h => by simp at h, fun hx => ?_⟩, hle⟩
      have ho := enOK_op hk1 hx
      rw [ho] at h
      exact absurd h (by decide)
    have ho : x.op = noOp := by
      obtain ⟨k, a, b, ⟨ok, key, val, old, had, after, ws⟩⟩ := x
      simp only [noOp, OpV.mk.injEq]
      simp only [List.length_map] at h
      simp at h
      obtain ⟨⟨⟨⟨⟨⟨h1, h2⟩, h3⟩, h4⟩, h5⟩, h6⟩, h7⟩ := h
      exact ⟨h1, h2, h3, h4, h5, h6, h7⟩
    clear h
    repeat (first | refine LOps.nil ?_ | refine andThen_normal ?_ | refine andThen_exit ?_ | refine andThen_ret ?_ | refine inBlock_normal ?_ | refine inBlock_ret ?_ | refine inBlock_here ?_ | refine inBlock_out rfl ?_ | refine LWp.seq ?_ | refine LWp.region ?_ | refine LWp.block ?_ | refine LWp.exit ?_ | refine LWp.ret ?_ | refine LWp.skip ?_ | refine LOps.valA ?_ | refine LOps.outA ?_ | refine LOps.whenA ?_ | refine LOps.pickA ?_ | refine LOps.storeA ?_)
    refine LWp.cond rfl (fun h => ?_) (fun h => ?_)
    · have hk : x.kind = 2 := by simpa using h
      repeat (first | refine LOps.nil ?_ | refine andThen_normal ?_ | refine andThen_exit ?_ | refine andThen_ret ?_ | refine inBlock_normal ?_ | refine inBlock_ret ?_ | refine inBlock_here ?_ | refine inBlock_out rfl ?_ | refine LWp.seq ?_ | refine LWp.region ?_ | refine LWp.block ?_ | refine LWp.exit ?_ | refine LWp.ret ?_ | refine LWp.skip ?_ | refine LOps.val (LVal.call rfl rfl (by rw [hP]; exact Try.func32) rfl (by decide) (refIn_F hP x.a 65535)) rfl rfl rfl ?_ | refine LOps.whenC (LVal.call rfl rfl (by rw [hP]; exact Try.func32) rfl (by decide) (refIn_F hP x.a 65535)) ?_ | refine LOps.valA ?_ | refine LOps.outA ?_ | refine LOps.whenA ?_ | refine LOps.pickA ?_ | refine LOps.storeA ?_)
      refine ⟨_, LRes.one rfl, okB_of ?_, hle⟩
      unfold enOK
      rw [if_neg hk1, if_pos hk]
      obtain ⟨k, a, b, o⟩ := x
      simp only at ho hk
      subst ho
      simp [inN]
      omega
    have hk2 : ¬ x.kind = 2 := by simpa using h
    repeat (first | refine LOps.nil ?_ | refine andThen_normal ?_ | refine andThen_exit ?_ | refine andThen_ret ?_ | refine inBlock_normal ?_ | refine inBlock_ret ?_ | refine inBlock_here ?_ | refine inBlock_out rfl ?_ | refine LWp.seq ?_ | refine LWp.region ?_ | refine LWp.block ?_ | refine LWp.exit ?_ | refine LWp.ret ?_ | refine LWp.skip ?_ | refine LOps.valA ?_ | refine LOps.outA ?_ | refine LOps.whenA ?_ | refine LOps.pickA ?_ | refine LOps.storeA ?_)
    refine LWp.cond rfl (fun h => ?_) (fun h => ?_)
    · have hk : x.kind = 3 := by simpa using h
      repeat (first | refine LOps.nil ?_ | refine andThen_normal ?_ | refine andThen_exit ?_ | refine andThen_ret ?_ | refine inBlock_normal ?_ | refine inBlock_ret ?_ | refine inBlock_here ?_ | refine inBlock_out rfl ?_ | refine LWp.seq ?_ | refine LWp.region ?_ | refine LWp.block ?_ | refine LWp.exit ?_ | refine LWp.ret ?_ | refine LWp.skip ?_ | refine LOps.val (LVal.call rfl rfl (by rw [hP]; exact Try.func32) rfl (by decide) (refIn_F hP x.a 255)) rfl rfl rfl ?_ | refine LOps.val (LVal.call rfl rfl (by rw [hP]; exact Try.func32) rfl (by decide) (refIn_F hP x.b 255)) rfl rfl rfl ?_ | refine LOps.whenC (LVal.call rfl rfl (by rw [hP]; exact Try.func32) rfl (by decide) (refIn_F hP x.a 255)) ?_ | refine LOps.whenC (LVal.call rfl rfl (by rw [hP]; exact Try.func32) rfl (by decide) (refIn_F hP x.b 255)) ?_ | refine LOps.valA ?_ | refine LOps.outA ?_ | refine LOps.whenA ?_ | refine LOps.pickA ?_ | refine LOps.storeA ?_)
      refine ⟨_, LRes.one rfl, okB_of ?_, hle⟩
      unfold enOK
      rw [if_neg hk1, if_neg hk2, if_pos hk]
      obtain ⟨k, a, b, o⟩ := x
      simp only at ho hk
      subst ho
      simp [inN]
      omega
    have hk3 : ¬ x.kind = 3 := by simpa using h
    repeat (first | refine LWp.seq (LWp.cut 10 (fun T' S' => S' = S1 ∧ ∃ T'', T' = over T'' [(1, ptr b1), (3, ptr b3), (44, .one (uv x.kind)), (65, .one (bv (decide (x.kind = 4 ∨ x.kind = 5))))]) rfl ?_ ?_) | refine LOps.nil ?_ | refine andThen_normal ?_ | refine andThen_exit ?_ | refine andThen_ret ?_ | refine inBlock_normal ?_ | refine inBlock_ret ?_ | refine inBlock_here ?_ | refine inBlock_out rfl ?_ | refine LWp.seq ?_ | refine LWp.region ?_ | refine LWp.block ?_ | refine LWp.exit ?_ | refine LWp.ret ?_ | refine LWp.skip ?_ | refine LOps.valA ?_ | refine LOps.outA ?_ | refine LOps.whenA ?_ | refine LOps.pickA ?_ | refine LOps.storeA ?_)
    · repeat (first | refine LOps.nil ?_ | refine andThen_normal ?_ | refine andThen_exit ?_ | refine andThen_ret ?_ | refine inBlock_normal ?_ | refine inBlock_ret ?_ | refine inBlock_here ?_ | refine inBlock_out rfl ?_ | refine LWp.seq ?_ | refine LWp.region ?_ | refine LWp.block ?_ | refine LWp.exit ?_ | refine LWp.ret ?_ | refine LWp.skip ?_ | refine LOps.valA ?_ | refine LOps.outA ?_ | refine LOps.whenA ?_ | refine LOps.pickA ?_ | refine LOps.storeA ?_)
      refine LWp.cond rfl (fun h => ?_) (fun h => ?_)
      · have h4 : x.kind = 4 := by simpa using h
        repeat (first | refine LOps.nil ?_ | refine andThen_normal ?_ | refine andThen_exit ?_ | refine andThen_ret ?_ | refine inBlock_normal ?_ | refine inBlock_ret ?_ | refine inBlock_here ?_ | refine inBlock_out rfl ?_ | refine LWp.seq ?_ | refine LWp.region ?_ | refine LWp.block ?_ | refine LWp.exit ?_ | refine LWp.ret ?_ | refine LWp.skip ?_ | refine LOps.valA ?_ | refine LOps.outA ?_ | refine LOps.whenA ?_ | refine LOps.pickA ?_ | refine LOps.storeA ?_)
        refine ⟨rfl, _, holds.over ⟨rfl, rfl, rfl, ?_, trivial⟩⟩
        have : decide (x.kind = 4 ∨ x.kind = 5) = (x.kind == 4) := by simp [h4]
        rw [this]; rfl
      · have h4 : ¬ x.kind = 4 := by simpa using h
        repeat (first | refine LOps.nil ?_ | refine andThen_normal ?_ | refine andThen_exit ?_ | refine andThen_ret ?_ | refine inBlock_normal ?_ | refine inBlock_ret ?_ | refine inBlock_here ?_ | refine inBlock_out rfl ?_ | refine LWp.seq ?_ | refine LWp.region ?_ | refine LWp.block ?_ | refine LWp.exit ?_ | refine LWp.ret ?_ | refine LWp.skip ?_ | refine LOps.valA ?_ | refine LOps.outA ?_ | refine LOps.whenA ?_ | refine LOps.pickA ?_ | refine LOps.storeA ?_)
        refine ⟨rfl, _, holds.over ⟨rfl, rfl, rfl, ?_, trivial⟩⟩
        have : decide (x.kind = 4 ∨ x.kind = 5) = (x.kind == 5) := by by_cases h5 : x.kind = 5 <;> simp [h4, h5]
        rw [this]; rfl
    rintro T' S1 ⟨rfl, T'', rfl⟩
    repeat (first | refine LOps.nil ?_ | refine andThen_normal ?_ | refine andThen_exit ?_ | refine andThen_ret ?_ | refine inBlock_normal ?_ | refine inBlock_ret ?_ | refine inBlock_here ?_ | refine inBlock_out rfl ?_ | refine LWp.seq ?_ | refine LWp.region ?_ | refine LWp.block ?_ | refine LWp.exit ?_ | refine LWp.ret ?_ | refine LWp.skip ?_ | refine LOps.valA ?_ | refine LOps.outA ?_ | refine LOps.whenA ?_ | refine LOps.pickA ?_ | refine LOps.storeA ?_)
    refine LWp.cond rfl (fun h => ?_) (fun h => ?_)
    · have hk : x.kind = 4 ∨ x.kind = 5 := by simpa using h
      repeat (first | refine LOps.nil ?_ | refine andThen_normal ?_ | refine andThen_exit ?_ | refine andThen_ret ?_ | refine inBlock_normal ?_ | refine inBlock_ret ?_ | refine inBlock_here ?_ | refine inBlock_out rfl ?_ | refine LWp.seq ?_ | refine LWp.region ?_ | refine LWp.block ?_ | refine LWp.exit ?_ | refine LWp.ret ?_ | refine LWp.skip ?_ | refine LOps.val (LVal.call rfl rfl (by rw [hP]; exact Try.func32) rfl (by decide) (refIn_F hP x.a 255)) rfl rfl rfl ?_ | refine LOps.whenC (LVal.call rfl rfl (by rw [hP]; exact Try.func32) rfl (by decide) (refIn_F hP x.a 255)) ?_ | refine LOps.valA ?_ | refine LOps.outA ?_ | refine LOps.whenA ?_ | refine LOps.pickA ?_ | refine LOps.storeA ?_)
      refine ⟨_, LRes.one rfl, okB_of ?_, hle⟩
      unfold enOK
      rw [if_neg hk1, if_neg hk2, if_neg hk3, if_pos hk]
      obtain ⟨k, a, b, o⟩ := x
      simp only at ho hk
      subst ho
      simp [inN]
      omega
    have hk4 : ¬ (x.kind = 4 ∨ x.kind = 5) := by simpa using h
    repeat (first | refine LOps.nil ?_ | refine andThen_normal ?_ | refine andThen_exit ?_ | refine andThen_ret ?_ | refine inBlock_normal ?_ | refine inBlock_ret ?_ | refine inBlock_here ?_ | refine inBlock_out rfl ?_ | refine LWp.seq ?_ | refine LWp.region ?_ | refine LWp.block ?_ | refine LWp.exit ?_ | refine LWp.ret ?_ | refine LWp.skip ?_ | refine LOps.valA ?_ | refine LOps.outA ?_ | refine LOps.whenA ?_ | refine LOps.pickA ?_ | refine LOps.storeA ?_)
    refine LWp.cond rfl (fun h => ?_) (fun h => ?_)
    · have hk : x.kind = 6 := by simpa using h
      repeat (first | refine LOps.nil ?_ | refine andThen_normal ?_ | refine andThen_exit ?_ | refine andThen_ret ?_ | refine inBlock_normal ?_ | refine inBlock_ret ?_ | refine inBlock_here ?_ | refine inBlock_out rfl ?_ | refine LWp.seq ?_ | refine LWp.region ?_ | refine LWp.block ?_ | refine LWp.exit ?_ | refine LWp.ret ?_ | refine LWp.skip ?_ | refine LOps.val (LVal.call rfl rfl (by rw [hP]; exact Try.func32) rfl (by decide) (refIn_F hP x.a 4294967295)) rfl rfl rfl ?_ | refine LOps.whenC (LVal.call rfl rfl (by rw [hP]; exact Try.func32) rfl (by decide) (refIn_F hP x.a 4294967295)) ?_ | refine LOps.valA ?_ | refine LOps.outA ?_ | refine LOps.whenA ?_ | refine LOps.pickA ?_ | refine LOps.storeA ?_)
      refine ⟨_, LRes.one rfl, okB_of ?_, hle⟩
      unfold enOK
      rw [if_neg hk1, if_neg hk2, if_neg hk3, if_neg hk4, if_pos hk]
      obtain ⟨k, a, b, o⟩ := x
      simp only at ho hk
      subst ho
      simp [inN]
      omega
    have hk6 : ¬ x.kind = 6 := by simpa using h
    repeat (first | refine LOps.nil ?_ | refine andThen_normal ?_ | refine andThen_exit ?_ | refine andThen_ret ?_ | refine inBlock_normal ?_ | refine inBlock_ret ?_ | refine inBlock_here ?_ | refine inBlock_out rfl ?_ | refine LWp.seq ?_ | refine LWp.region ?_ | refine LWp.block ?_ | refine LWp.exit ?_ | refine LWp.ret ?_ | refine LWp.skip ?_ | refine LOps.valA ?_ | refine LOps.outA ?_ | refine LOps.whenA ?_ | refine LOps.pickA ?_ | refine LOps.storeA ?_)
    refine ⟨_, LRes.one rfl, okB_of ⟨fun h => by simp at h, fun hx => ?_⟩, hle⟩
    have := enOK_kind hx
    omega
  have hk1 : x.kind = 1 := by simpa using h
  clear h
  repeat (first | refine LOps.nil ?_ | refine andThen_normal ?_ | refine andThen_exit ?_ | refine andThen_ret ?_ | refine inBlock_normal ?_ | refine inBlock_ret ?_ | refine inBlock_here ?_ | refine inBlock_out rfl ?_ | refine LWp.seq ?_ | refine LWp.region ?_ | refine LWp.block ?_ | refine LWp.exit ?_ | refine LWp.ret ?_ | refine LWp.skip ?_ | refine LOps.valA ?_ | refine LOps.outA ?_ | refine LOps.whenA ?_ | refine LOps.pickA ?_ | refine LOps.storeA ?_)
  refine LWp.cond rfl (fun h => ?_) (fun h => ?_)
  · repeat (first | refine LOps.nil ?_ | refine andThen_normal ?_ | refine andThen_exit ?_ | refine andThen_ret ?_ | refine inBlock_normal ?_ | refine inBlock_ret ?_ | refine inBlock_here ?_ | refine inBlock_out rfl ?_ | refine LWp.seq ?_ | refine LWp.region ?_ | refine LWp.block ?_ | refine LWp.exit ?_ | refine LWp.ret ?_ | refine LWp.skip ?_ | refine LOps.valA ?_ | refine LOps.outA ?_ | refine LOps.whenA ?_ | refine LOps.pickA ?_ | refine LOps.storeA ?_)
    refine ⟨_, LRes.one rfl, okB_of ⟨fun h => by simp at h, fun hx => ?_⟩, hle⟩
    exfalso
    obtain ⟨e1, e2, e3⟩ := (enOK_1 hk1).1 hx
    have i1 := e3.kind
    have i2 := e3.key
    have i3 := e3.val
    have i4 := e3.old
    have i5 := e3.n
    rw [hmw] at h
    simp [e1, e2] at h
    omega
  have hf : x.a = 0 ∧ x.b = 0 ∧ (1 ≤ x.op.kind ∧ x.op.kind ≤ 6) ∧ x.op.key.size ≤ 255 ∧ x.op.val.size ≤ 255 ∧ x.op.old.size ≤ 255 ∧ x.op.writes.length ≤ 255 := by
    rw [hmw] at h
    simp at h
    omega
  clear h
  obtain ⟨ha, hb, hkd, q1, q2, q3, q4⟩ := hf
  repeat (first | refine LOps.nil ?_ | refine andThen_normal ?_ | refine andThen_exit ?_ | refine andThen_ret ?_ | refine inBlock_normal ?_ | refine inBlock_ret ?_ | refine inBlock_here ?_ | refine inBlock_out rfl ?_ | refine LWp.seq ?_ | refine LWp.region ?_ | refine LWp.block ?_ | refine LWp.exit ?_ | refine LWp.ret ?_ | refine LWp.skip ?_ | refine LOps.valA ?_ | refine LOps.outA ?_ | refine LOps.whenA ?_ | refine LOps.pickA ?_ | refine LOps.storeA ?_)
  refine LWp.cond rfl (fun h => ?_) (fun h => ?_)
  · repeat (first | refine LOps.nil ?_ | refine andThen_normal ?_ | refine andThen_exit ?_ | refine andThen_ret ?_ | refine inBlock_normal ?_ | refine inBlock_ret ?_ | refine inBlock_here ?_ | refine inBlock_out rfl ?_ | refine LWp.seq ?_ | refine LWp.region ?_ | refine LWp.block ?_ | refine LWp.exit ?_ | refine LWp.ret ?_ | refine LWp.skip ?_ | refine LOps.valA ?_ | refine LOps.outA ?_ | refine LOps.whenA ?_ | refine LOps.pickA ?_ | refine LOps.storeA ?_)
    refine ⟨_, LRes.one rfl, okB_of ⟨fun h => by simp at h, fun hx => ?_⟩, hle⟩
    exfalso
    obtain ⟨e1, e2, e3⟩ := (enOK_1 hk1).1 hx
    have i1 := e3.v0
    have i2 := e3.h0
    have i3 := e3.o0
    have i4 := e3.a0
    have i5 := e3.w0
    have i6 := e3.k0
    simp only [hmw, nb_dec, Bool.or_eq_true, Bool.and_eq_true, Bool.not_eq_true', decide_eq_true_eq, decide_eq_false_iff_not, bne_iff_ne, beq_iff_eq, ne_eq] at h
    rcases h with ((((⟨⟨h1, h2⟩, h3⟩ | ⟨h1, h2⟩) | ⟨h1, h2⟩) | ⟨h1, h2⟩) | ⟨h1, h2⟩) | ⟨h1, h2⟩
    · exact h3 (i1 h1 h2)
    · rw [i2 h1] at h2; cases h2
    · exact h2 (i3 h1)
    · rw [i4 h1] at h2; cases h2
    · rw [i5 h1] at h2; simp at h2
    · exact h2 (i6 h1)
  have hf2 : (¬ x.op.kind = 2 → ¬ x.op.kind = 4 → x.op.val = noBytes) ∧ (¬ x.op.kind = 4 → x.op.had = false) ∧ (x.op.had = false → x.op.old = noBytes) ∧ (¬ x.op.kind = 5 → x.op.after = false) ∧ (¬ x.op.kind = 6 → x.op.writes = []) ∧ (x.op.kind = 6 → x.op.key = noBytes) := by
    have hn : ¬ (((((((¬ x.op.kind = 2 ∧ ¬ x.op.kind = 4) ∧ ¬ x.op.val = noBytes) ∨ (¬ x.op.kind = 4 ∧ x.op.had = true)) ∨ (x.op.had = false ∧ ¬ x.op.old = noBytes)) ∨ (¬ x.op.kind = 5 ∧ x.op.after = true)) ∨ (¬ x.op.kind = 6 ∧ (x.op.writes.length : Int) > 0)) ∨ (x.op.kind = 6 ∧ ¬ x.op.key = noBytes)) := by
      intro hq
      rw [← Bool.not_eq_true] at h
      apply h
      simp only [hmw, nb_dec, Bool.or_eq_true, Bool.and_eq_true, Bool.not_eq_true', decide_eq_true_eq, decide_eq_false_iff_not, bne_iff_ne, beq_iff_eq, ne_eq]
      exact hq
    refine ⟨fun c1 c2 => ?_, fun c1 => ?_, fun c1 => ?_, fun c1 => ?_, fun c1 => ?_, fun c1 => ?_⟩
    · exact Decidable.byContradiction fun c3 => hn (.inl (.inl (.inl (.inl (.inl ⟨⟨c1, c2⟩, c3⟩)))))
    · cases hh : x.op.had with
      | false => rfl
      | true => exact absurd (.inl (.inl (.inl (.inl (.inr ⟨c1, hh⟩))))) hn
    · exact Decidable.byContradiction fun c3 => hn (.inl (.inl (.inl (.inr ⟨c1, c3⟩))))
    · cases hh : x.op.after with
      | false => rfl
      | true => exact absurd (.inl (.inl (.inr ⟨c1, hh⟩))) hn
    · cases hh : x.op.writes with
      | nil => rfl
      | cons w ws => exact absurd (.inl (.inr ⟨c1, by rw [hh]; simp⟩)) hn
    · exact Decidable.byContradiction fun c3 => hn (.inr ⟨c1, c3⟩)
  clear h
  have hiff : enOK x ↔ ∀ w ∈ x.op.writes, wrOK w :=
    ⟨fun hx => ((enOK_1 hk1).1 hx).2.2.ws, fun hw => (enOK_1 hk1).2 ⟨ha, hb, ⟨hkd, q1, q2, q3, q4, hf2.1, hf2.2.1, hf2.2.2.1, hf2.2.2.2.1, hf2.2.2.2.2.1, hf2.2.2.2.2.2, hw⟩⟩⟩
  clear hf2 ha hb hkd q1 q2 q3
  repeat (first | refine LOps.nil ?_ | refine andThen_normal ?_ | refine andThen_exit ?_ | refine andThen_ret ?_ | refine inBlock_normal ?_ | refine inBlock_ret ?_ | refine inBlock_here ?_ | refine inBlock_out rfl ?_ | refine LWp.seq ?_ | refine LWp.region ?_ | refine LWp.block ?_ | refine LWp.exit ?_ | refine LWp.ret ?_ | refine LWp.skip ?_ | refine LOps.valA ?_ | refine LOps.outA ?_ | refine LOps.whenA ?_ | refine LOps.pickA ?_ | refine LOps.storeA ?_)
  refine LWp.loop (fun k T S' => S.le S' ∧ S'.box b3 = some (opL x.op) ∧ ∃ (T' : Nat → TV) (j : Nat), j ≤ x.op.writes.length ∧ k = x.op.writes.length - j ∧ (∀ w ∈ x.op.writes.take j, wrOK w) ∧ T = over T' [(3, ptr b3), (4, .one (iv (j : Nat)))]) x.op.writes.length ?_ ?_
  · exact ⟨hle, k3, _, 0, by omega, rfl, by simp, holds.over ⟨rfl, rfl, trivial⟩⟩
  clear hle k1 k3
  rintro k T S2 ⟨hle, k3, T', j, hj, rfl, hall, rfl⟩
  repeat (first | refine LOps.nil ?_ | refine andThen_normal ?_ | refine andThen_exit ?_ | refine andThen_ret ?_ | refine inBlock_normal ?_ | refine inBlock_ret ?_ | refine inBlock_here ?_ | refine inBlock_out rfl ?_ | refine LWp.seq ?_ | refine LWp.region ?_ | refine LWp.block ?_ | refine LWp.exit ?_ | refine LWp.ret ?_ | refine LWp.skip ?_ | refine LOps.valA ?_ | refine LOps.outA ?_ | refine LOps.whenA ?_ | refine LOps.pickA ?_ | refine LOps.storeA ?_)
  refine LWp.cond rfl (fun h => ?_) (fun h => ?_)
  · have hlt : j < x.op.writes.length := by simpa using h
    repeat (first | refine LOps.nil ?_ | refine andThen_normal ?_ | refine andThen_exit ?_ | refine andThen_ret ?_ | refine inBlock_normal ?_ | refine inBlock_ret ?_ | refine inBlock_here ?_ | refine inBlock_out rfl ?_ | refine LWp.seq ?_ | refine LWp.region ?_ | refine LWp.block ?_ | refine LWp.exit ?_ | refine LWp.ret ?_ | refine LWp.skip ?_ | refine LOps.valA ?_ | refine LOps.outA ?_ | refine LOps.whenA ?_ | refine LOps.pickA ?_ | refine LOps.storeA ?_)
    refine LOps.do (LDo.alloc hD rfl rfl rfl) rfl rfl rfl ?_
    rintro _ _ ⟨b5, hb5, rfl, rfl⟩
    have n35 := fresh_ne hb5 k3
    have s5 := hle.none hb5
    have k35 := (box_set_ne (S2.newBox b5 (lzero ti51)) (wrL x.op.writes[j]) n35).trans ((box_new_ne S2 (lzero ti51) n35).trans k3)
    have le5 := (hle.newBox hb5 (lzero ti51)).setBox s5 (wrL x.op.writes[j])
    repeat (first | refine LOps.gen (fun S3 => S.le S3 ∧ S3.box b3 = some (opL x.op) ∧ S3.box b5 = some (wrL x.op.writes[j])) ⟨le5, k35, box_set _ _ _⟩ ?_ | refine LOps.nil ?_ | refine andThen_normal ?_ | refine andThen_exit ?_ | refine andThen_ret ?_ | refine inBlock_normal ?_ | refine inBlock_ret ?_ | refine inBlock_here ?_ | refine inBlock_out rfl ?_ | refine LWp.seq ?_ | refine LWp.region ?_ | refine LWp.block ?_ | refine LWp.exit ?_ | refine LWp.ret ?_ | refine LWp.skip ?_ | refine LOps.valA ?_ | refine LOps.outA ?_ | refine LOps.whenA ?_ | refine LOps.pickA ?_ | refine LOps.storeA ?_)
    clear hle k3 hb5 k35 le5
    rintro S3 ⟨hle, k3, k5⟩
    have hwe : (((decide ((x.op.writes[j].key.size : Int) > 255)) || decide ((x.op.writes[j].val.size : Int) > 255)) || (x.op.writes[j].gone && !decide (x.op.writes[j].val = { data := #[] }))) = true ↔ ¬ wrOK x.op.writes[j] := by
      unfold wrOK
      simp only [nb_dec, Bool.or_eq_true, Bool.and_eq_true, Bool.not_eq_true', decide_eq_true_eq, decide_eq_false_iff_not]
      constructor
      · rintro ((h | h) | ⟨h1, h2⟩) ⟨c1, c2, c3⟩
        · omega
        · omega
        · exact h2 (c3 h1)
      · intro hn
        by_cases c1 : x.op.writes[j].key.size < 256
        · by_cases c2 : x.op.writes[j].val.size < 256
          · right
            cases hg : x.op.writes[j].gone with
            | false => exact absurd ⟨c1, c2, fun e => by rw [hg] at e; cases e⟩ hn
            | true => exact ⟨rfl, fun e => hn ⟨c1, c2, fun _ => e⟩⟩
          · left; right; omega
        · left; left; omega
    repeat (first | refine LOps.nil ?_ | refine andThen_normal ?_ | refine andThen_exit ?_ | refine andThen_ret ?_ | refine inBlock_normal ?_ | refine inBlock_ret ?_ | refine inBlock_here ?_ | refine inBlock_out rfl ?_ | refine LWp.seq ?_ | refine LWp.region ?_ | refine LWp.block ?_ | refine LWp.exit ?_ | refine LWp.ret ?_ | refine LWp.skip ?_ | refine LOps.valA ?_ | refine LOps.outA ?_ | refine LOps.whenA ?_ | refine LOps.pickA ?_ | refine LOps.storeA ?_)
    refine LWp.cond rfl (fun h => ?_) (fun h => ?_)
    · have hno := hwe.1 h
      repeat (first | refine LOps.nil ?_ | refine andThen_normal ?_ | refine andThen_exit ?_ | refine andThen_ret ?_ | refine inBlock_normal ?_ | refine inBlock_ret ?_ | refine inBlock_here ?_ | refine inBlock_out rfl ?_ | refine LWp.seq ?_ | refine LWp.region ?_ | refine LWp.block ?_ | refine LWp.exit ?_ | refine LWp.ret ?_ | refine LWp.skip ?_ | refine LOps.valA ?_ | refine LOps.outA ?_ | refine LOps.whenA ?_ | refine LOps.pickA ?_ | refine LOps.storeA ?_)
      exact ⟨_, LRes.one rfl, okB_of ⟨fun h => by simp at h, fun hx => absurd (hiff.1 hx _ (List.getElem_mem hlt)) hno⟩, hle⟩
    · have hyes : wrOK x.op.writes[j] := Classical.byContradiction fun hn => by
        have := hwe.2 hn
        have h : (((decide ((x.op.writes[j].key.size : Int) > 255)) || decide ((x.op.writes[j].val.size : Int) > 255)) || (x.op.writes[j].gone && !decide (x.op.writes[j].val = { data := #[] }))) = false := h
        rw [h] at this; cases this
      repeat (first | refine LOps.nil ?_ | refine andThen_normal ?_ | refine andThen_exit ?_ | refine andThen_ret ?_ | refine inBlock_normal ?_ | refine inBlock_ret ?_ | refine inBlock_here ?_ | refine inBlock_out rfl ?_ | refine LWp.seq ?_ | refine LWp.region ?_ | refine LWp.block ?_ | refine LWp.exit ?_ | refine LWp.ret ?_ | refine LWp.skip ?_ | refine LOps.valA ?_ | refine LOps.outA ?_ | refine LOps.whenA ?_ | refine LOps.pickA ?_ | refine LOps.storeA ?_)
      refine ⟨x.op.writes.length - (j + 1), by omega, hle, k3, _, j + 1, by omega, rfl, fun w hw => ?_, holds.over ⟨rfl, rfl, trivial⟩⟩
      rw [List.take_succ_eq_append_getElem hlt, List.mem_append] at hw
      rcases hw with hw | hw
      · exact hall w hw
      · obtain rfl : w = x.op.writes[j] := (by simpa using hw)
        exact hyes
  · have hge : j = x.op.writes.length := by simp at h; omega
    subst hge
    rw [List.take_length] at hall
    repeat (first | refine LOps.nil ?_ | refine andThen_normal ?_ | refine andThen_exit ?_ | refine andThen_ret ?_ | refine inBlock_normal ?_ | refine inBlock_ret ?_ | refine inBlock_here ?_ | refine inBlock_out rfl ?_ | refine LWp.seq ?_ | refine LWp.region ?_ | refine LWp.block ?_ | refine LWp.exit ?_ | refine LWp.ret ?_ | refine LWp.skip ?_ | refine LOps.valA ?_ | refine LOps.outA ?_ | refine LOps.whenA ?_ | refine LOps.pickA ?_ | refine LOps.storeA ?_)
    exact ⟨_, LRes.one rfl, okB_of ⟨fun _ => hiff.2 hall, fun _ => rfl⟩, hle⟩
end Go.Proofs.Ytbifiagpmoakdaa.LF
