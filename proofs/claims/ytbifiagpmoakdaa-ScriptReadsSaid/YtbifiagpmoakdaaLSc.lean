/- The reader's op. -/
import Derived.Test.YtbifiagpmoakdaaLSb
set_option linter.unusedVariables false
set_option linter.unusedSimpArgs false
namespace Go.Proofs.Ytbifiagpmoakdaa.LF
open Go.RowKit

/-- What stands while an operation is read. -/
structure OpJ (S0 S : LS) (b b2 b3 : Nat) (bs : List UInt8) (p : Nat) (d : Bool) (o : Own) (x : OpV) : Prop where
  only : S0.only (· = b) S
  kb : S.box b = some (rdL bs p d)
  k2 : S.box b2 = some (lzero ti33)
  k3 : S.box b3 = some (opW o x)
  hp : p ≤ bs.length
  n2 : ¬ b2 = b
  n3 : ¬ b3 = b
  n23 : b2 ≠ b3
  s3 : S0.box b3 = none

theorem OpJ.step {S0 S S' : LS} {b b2 b3 : Nat} {bs : List UInt8} {p p' : Nat} {d d' : Bool} {o : Own} {x : OpV} (h : OpJ S0 S b b2 b3 bs p d o x) (k : S.only (· = b) S') (kb : S'.box b = some (rdL bs p' d')) (hp : p' ≤ bs.length) : OpJ S0 S' b b2 b3 bs p' d' o x :=
  ⟨h.only.trans k, kb, k.box _ _ h.n2 h.k2, k.box _ _ h.n3 h.k3, hp, h.n2, h.n3, h.n23, h.s3⟩
theorem OpJ.set {S0 S : LS} {b b2 b3 : Nat} {bs : List UInt8} {p : Nat} {d : Bool} {o : Own} {x : OpV} (h : OpJ S0 S b b2 b3 bs p d o x) (o' : Own) (x' : OpV) : OpJ S0 (S.setBox b3 (opW o' x')) b b2 b3 bs p d o' x' :=
  ⟨h.only.setNew h.s3 _, (box_set_ne _ _ (fun e => h.n3 e.symm)).trans h.kb, (box_set_ne _ _ h.n23).trans h.k2, box_set _ _ _, h.hp, h.n2, h.n3, h.n23, h.s3⟩
theorem OpJ.bad {S0 S : LS} {b b2 b3 : Nat} {bs : List UInt8} {p : Nat} {d : Bool} {o : Own} {x : OpV} (h : OpJ S0 S b b2 b3 bs p d o x) : OpJ S0 (S.setBox b (rdL bs p true)) b b2 b3 bs p true o x :=
  ⟨h.only.trans (.setBox (F := (· = b)) rfl _), box_set _ _ _, (box_set_ne _ _ h.n2).trans h.k2, (box_set_ne _ _ h.n3).trans h.k3, h.hp, h.n2, h.n3, h.n23, h.s3⟩

theorem OpJ.upto {S0 S S' : LS} {b b2 b3 : Nat} {bs : List UInt8} {p : Nat} {d : Bool} {o : Own} {x : OpV} (h : OpJ S0 S b b2 b3 bs p d o x) (k : S.upto o S') (ho : Out S0 o) : OpJ S0 S' b b2 b3 bs p d o x :=
  ⟨⟨fun b x hb hx => k.box b x (h.only.box b x hb hx), fun b x hb hx => k.row b x (fun e => by rw [ho b e] at hx; cases hx) (h.only.row b x hb hx), fun b x hb hx => k.obj b x (h.only.obj b x hb hx), Nat.le_trans h.only.top k.top⟩,
   k.box _ _ h.kb, k.box _ _ h.k2, k.box _ _ h.k3, h.hp, h.n2, h.n3, h.n23, h.s3⟩
theorem OpJ.put {S0 S : LS} {b b2 b3 c : Nat} {bs : List UInt8} {p : Nat} {d : Bool} {o : Own} {x : OpV} (h : OpJ S0 S b b2 b3 bs p d o x) (nb : b ≠ c) (n2 : b2 ≠ c) (n3 : b3 ≠ c) (hc : S0.box c = none) (cs : List LV) : OpJ S0 (S.setBox c cs) b b2 b3 bs p d o x :=
  ⟨h.only.setNew hc _, (box_set_ne _ _ nb).trans h.kb, (box_set_ne _ _ n2).trans h.k2, (box_set_ne _ _ n3).trans h.k3, h.hp, h.n2, h.n3, h.n23, h.s3⟩
theorem OpJ.new {S0 S : LS} {b b2 b3 c : Nat} {bs : List UInt8} {p : Nat} {d : Bool} {o : Own} {x : OpV} (h : OpJ S0 S b b2 b3 bs p d o x) (hc : S.fresh c) (cs : List LV) : OpJ S0 (S.newBox c cs) b b2 b3 bs p d o x :=
  ⟨h.only.trans (.newBox hc _ _), (box_new_ne _ _ (fresh_ne hc h.kb)).trans h.kb, (box_new_ne _ _ (fresh_ne hc h.k2)).trans h.k2, (box_new_ne _ _ (fresh_ne hc h.k3)).trans h.k3, h.hp, h.n2, h.n3, h.n23, h.s3⟩
theorem OpJ.none {S0 S : LS} {b b2 b3 c : Nat} {bs : List UInt8} {p : Nat} {d : Bool} {o : Own} {x : OpV} (h : OpJ S0 S b b2 b3 bs p d o x) (hc : S.fresh c) : S0.box c = Option.none := by
  cases hq : S0.box c with
  | none => rfl
  | some y =>
    have := h.only.box c y (fun e => fresh_ne hc h.kb e.symm) hq
    rw [hc.box] at this; cases this

theorem wrap_u8 {c : Nat} (h : c < 256) : IntKind.u8.wrap (c : Int) = c := IntWalk.u8_in _ ⟨by omega, by omega⟩
theorem dec_or {a b : Prop} [Decidable a] [Decidable b] : (bif decide a then true else decide b) = decide (a ∨ b) := by by_cases a <;> by_cases b <;> simp [*]

set_option maxHeartbeats 8000000 in
theorem op_L {G : Ctx} (hP : G.P = Try.prog) (bs : List UInt8) (hl : bs.length ≤ 1000000000) (p : Nat) (bad : Bool) (b : Nat) (S : LS) (hb : S.box b = some (rdL bs p bad)) (hp : p ≤ bs.length) :
    LCalls G 25 [ptr b] (fun r S' => S.only (· = b) S' ∧ S'.box b = some (rdL bs (opS bs (p, bad)).2.1 (opS bs (p, bad)).2.2) ∧ r = .agg (opL (opS bs (p, bad)).1)) S := .sound fun hs => by
  have hD : TabOK G.P D := by rw [hP]; exact hD0
  refine LCalls.enter (fn := Try.f25) (by rw [hP]; exact Try.func25) rfl rfl ?_
  repeat (first | refine LOps.nil ?_ | refine andThen_normal ?_ | refine andThen_exit ?_ | refine andThen_ret ?_ | refine inBlock_normal ?_ | refine inBlock_ret ?_ | refine inBlock_here ?_ | refine inBlock_out rfl ?_ | refine LWp.seq ?_ | refine LWp.region ?_ | refine LWp.block ?_ | refine LWp.exit ?_ | refine LWp.ret ?_ | refine LWp.skip ?_ | refine LOps.valA ?_ | refine LOps.outA ?_ | refine LOps.whenA ?_ | refine LOps.pickA ?_ | refine LOps.storeA ?_)
  refine LOps.do (LDo.alloc hD rfl rfl rfl) rfl rfl rfl ?_
  rintro _ _ ⟨b2, hb2, rfl, rfl⟩
  have nb2 : b ≠ b2 := fresh_ne hb2 hb
  have s2 : S.box b2 = none := hb2.box
  refine LOps.gen (fun S1 => S.le S1 ∧ S1.box b = some (rdL bs p bad) ∧ S1.box b2 = some (lzero ti33)) ⟨.newBox (.refl _) hb2 _, (box_new_ne _ _ nb2).trans hb, box_new _ _ _⟩ ?_
  clear hb2
  rintro S1 ⟨le1, kb, k2⟩
  obtain ⟨c, p1, d1, e1, hc256, hp1, hc⟩ := byte_C hP hl kb hp
  repeat (first | refine LOps.nil ?_ | refine andThen_normal ?_ | refine andThen_exit ?_ | refine andThen_ret ?_ | refine inBlock_normal ?_ | refine inBlock_ret ?_ | refine inBlock_here ?_ | refine inBlock_out rfl ?_ | refine LWp.seq ?_ | refine LWp.region ?_ | refine LWp.block ?_ | refine LWp.exit ?_ | refine LWp.ret ?_ | refine LWp.skip ?_ | refine LOps.valA ?_ | refine LOps.outA ?_ | refine LOps.whenA ?_ | refine LOps.pickA ?_ | refine LOps.storeA ?_)
  refine LOps.do (LDo.callF hc (by rw [hP]; exact Try.func24)) rfl rfl rfl ?_
  rintro _ S2 ⟨o2, kb, rfl⟩
  have k2 := o2.box _ _ (fun e => nb2 e.symm) k2
  have o2 := (le1.only _).trans o2
  repeat (first | refine LOps.val (r := .one (uv (c : Int))) (LVal.to (LVal.convInt hD rfl rfl rfl rfl rfl) (by rw [wrap_u8 hc256])) rfl rfl rfl ?_ | refine LOps.nil ?_ | refine andThen_normal ?_ | refine andThen_exit ?_ | refine andThen_ret ?_ | refine inBlock_normal ?_ | refine inBlock_ret ?_ | refine inBlock_here ?_ | refine inBlock_out rfl ?_ | refine LWp.seq ?_ | refine LWp.region ?_ | refine LWp.block ?_ | refine LWp.exit ?_ | refine LWp.ret ?_ | refine LWp.skip ?_ | refine LOps.valA ?_ | refine LOps.outA ?_ | refine LOps.whenA ?_ | refine LOps.pickA ?_ | refine LOps.storeA ?_)
  refine LOps.do (LDo.alloc hD rfl rfl rfl) rfl rfl rfl ?_
  rintro _ _ ⟨b3, hb3, rfl, rfl⟩
  have nb3 : b ≠ b3 := fresh_ne hb3 kb
  have n23 : b2 ≠ b3 := fresh_ne hb3 k2
  have s3 : S.box b3 = none := by
    cases hq : S.box b3 with
    | none => rfl
    | some x =>
      have := (o2.box b3 x (fun e => nb3 e.symm) hq)
      rw [hb3.box] at this; cases this
  repeat (first | refine LOps.gen (fun S3 => OpJ S S3 b b2 b3 bs p1 d1 .nil { noOp with kind := c }) ⟨(o2.trans (.newBox hb3 _ _)).setNew s3 _, (box_set_ne _ _ nb3).trans ((box_new_ne _ _ nb3).trans kb), (box_set_ne _ _ n23).trans ((box_new_ne _ _ n23).trans k2), box_set _ _ _, hp1, fun e => nb2 e.symm, fun e => nb3 e.symm, n23, s3⟩ ?_ | refine LOps.nil ?_ | refine andThen_normal ?_ | refine andThen_exit ?_ | refine andThen_ret ?_ | refine inBlock_normal ?_ | refine inBlock_ret ?_ | refine inBlock_here ?_ | refine inBlock_out rfl ?_ | refine LWp.seq ?_ | refine LWp.region ?_ | refine LWp.block ?_ | refine LWp.exit ?_ | refine LWp.ret ?_ | refine LWp.skip ?_ | refine LOps.valA ?_ | refine LOps.outA ?_ | refine LOps.whenA ?_ | refine LOps.pickA ?_ | refine LOps.storeA ?_)
  clear kb k2 o2 hb3 le1 hc
  intro S3 hJ
  repeat (first | refine LWp.seq (LWp.cut 2 (fun T' S' => ∃ (x : OpV) (o : Own) (p' : Nat) (d' : Bool) (T'' : Nat → TV), opS bs (p, bad) = (x, (p', d')) ∧ OpJ S S' b b2 b3 bs p' d' o x ∧ T' = over T'' [(2, ptr b2), (3, ptr b3)]) rfl ?_ ?_) | refine LOps.nil ?_ | refine andThen_normal ?_ | refine andThen_exit ?_ | refine andThen_ret ?_ | refine inBlock_normal ?_ | refine inBlock_ret ?_ | refine inBlock_here ?_ | refine inBlock_out rfl ?_ | refine LWp.seq ?_ | refine LWp.region ?_ | refine LWp.block ?_ | refine LWp.exit ?_ | refine LWp.ret ?_ | refine LWp.skip ?_ | refine LOps.valA ?_ | refine LOps.outA ?_ | refine LOps.whenA ?_ | refine LOps.pickA ?_ | refine LOps.storeA ?_)
  · have k3 := hJ.k3
    repeat (first | refine LWp.seq (LWp.cut 4 (fun T' S' => S' = S3 ∧ ∃ T'', T' = over T'' [(0, ptr b), (2, ptr b2), (3, ptr b3), (10, .one (uv (c : Int))), (14, .one (bv (decide (c = 1 ∨ c = 3))))]) rfl ?_ ?_) | refine LOps.nil ?_ | refine andThen_normal ?_ | refine andThen_exit ?_ | refine andThen_ret ?_ | refine inBlock_normal ?_ | refine inBlock_ret ?_ | refine inBlock_here ?_ | refine inBlock_out rfl ?_ | refine LWp.seq ?_ | refine LWp.region ?_ | refine LWp.block ?_ | refine LWp.exit ?_ | refine LWp.ret ?_ | refine LWp.skip ?_ | refine LOps.valA ?_ | refine LOps.outA ?_ | refine LOps.whenA ?_ | refine LOps.pickA ?_ | refine LOps.storeA ?_)
    · repeat (first | refine LOps.nil ?_ | refine andThen_normal ?_ | refine andThen_exit ?_ | refine andThen_ret ?_ | refine inBlock_normal ?_ | refine inBlock_ret ?_ | refine inBlock_here ?_ | refine inBlock_out rfl ?_ | refine LWp.seq ?_ | refine LWp.region ?_ | refine LWp.block ?_ | refine LWp.exit ?_ | refine LWp.ret ?_ | refine LWp.skip ?_ | refine LOps.valA ?_ | refine LOps.outA ?_ | refine LOps.whenA ?_ | refine LOps.pickA ?_ | refine LOps.storeA ?_)
      refine LWp.cond rfl (fun h => ?_) (fun h => ?_)
      · have h1 : c = 1 := by simp at h; omega
        repeat (first | refine LOps.nil ?_ | refine andThen_normal ?_ | refine andThen_exit ?_ | refine andThen_ret ?_ | refine inBlock_normal ?_ | refine inBlock_ret ?_ | refine inBlock_here ?_ | refine inBlock_out rfl ?_ | refine LWp.seq ?_ | refine LWp.region ?_ | refine LWp.block ?_ | refine LWp.exit ?_ | refine LWp.ret ?_ | refine LWp.skip ?_ | refine LOps.valA ?_ | refine LOps.outA ?_ | refine LOps.whenA ?_ | refine LOps.pickA ?_ | refine LOps.storeA ?_)
        exact ⟨rfl, _, holds.over ⟨rfl, rfl, rfl, rfl, by subst h1; rfl, trivial⟩⟩
      · have h1 : ¬ c = 1 := by simp at h; omega
        repeat (first | refine LOps.nil ?_ | refine andThen_normal ?_ | refine andThen_exit ?_ | refine andThen_ret ?_ | refine inBlock_normal ?_ | refine inBlock_ret ?_ | refine inBlock_here ?_ | refine inBlock_out rfl ?_ | refine LWp.seq ?_ | refine LWp.region ?_ | refine LWp.block ?_ | refine LWp.exit ?_ | refine LWp.ret ?_ | refine LWp.skip ?_ | refine LOps.valA ?_ | refine LOps.outA ?_ | refine LOps.whenA ?_ | refine LOps.pickA ?_ | refine LOps.storeA ?_)
        refine ⟨rfl, _, holds.over ⟨rfl, rfl, rfl, rfl, ?_, trivial⟩⟩
        have : decide (c = 1 ∨ c = 3) = ((c : Int) == 3) := by
          by_cases h3 : c = 3
          · subst h3; rfl
          · have : ((c : Int) == 3) = false := by simp; omega
            rw [this]; simp [h1, h3]
        rw [this]; rfl
    rintro T' S4 ⟨rfl, T'', rfl⟩
    repeat (first | refine LOps.nil ?_ | refine andThen_normal ?_ | refine andThen_exit ?_ | refine andThen_ret ?_ | refine inBlock_normal ?_ | refine inBlock_ret ?_ | refine inBlock_here ?_ | refine inBlock_out rfl ?_ | refine LWp.seq ?_ | refine LWp.region ?_ | refine LWp.block ?_ | refine LWp.exit ?_ | refine LWp.ret ?_ | refine LWp.skip ?_ | refine LOps.valA ?_ | refine LOps.outA ?_ | refine LOps.whenA ?_ | refine LOps.pickA ?_ | refine LOps.storeA ?_)
    refine LWp.cond rfl (fun h => ?_) (fun h => ?_)
    · have h1 : c = 1 ∨ c = 3 := by simpa using h
      obtain ⟨t, p2, d2, e2, hp, hc⟩ := text_C hP hl hJ.kb hJ.hp
      repeat (first | refine LOps.nil ?_ | refine andThen_normal ?_ | refine andThen_exit ?_ | refine andThen_ret ?_ | refine inBlock_normal ?_ | refine inBlock_ret ?_ | refine inBlock_here ?_ | refine inBlock_out rfl ?_ | refine LWp.seq ?_ | refine LWp.region ?_ | refine LWp.block ?_ | refine LWp.exit ?_ | refine LWp.ret ?_ | refine LWp.skip ?_ | refine LOps.valA ?_ | refine LOps.outA ?_ | refine LOps.whenA ?_ | refine LOps.pickA ?_ | refine LOps.storeA ?_)
      refine LOps.do (LDo.callF hc (by rw [hP]; exact Try.func33)) rfl rfl rfl ?_
      rintro _ S5 ⟨o4, kb, rfl⟩
      have hJ := hJ.step o4 kb hp
      have k3 := hJ.k3
      repeat (first | refine LOps.nil ?_ | refine andThen_normal ?_ | refine andThen_exit ?_ | refine andThen_ret ?_ | refine inBlock_normal ?_ | refine inBlock_ret ?_ | refine inBlock_here ?_ | refine inBlock_out rfl ?_ | refine LWp.seq ?_ | refine LWp.region ?_ | refine LWp.block ?_ | refine LWp.exit ?_ | refine LWp.ret ?_ | refine LWp.skip ?_ | refine LOps.valA ?_ | refine LOps.outA ?_ | refine LOps.whenA ?_ | refine LOps.pickA ?_ | refine LOps.storeA ?_)
      exact ⟨{ noOp with kind := c, key := t }, .nil, p2, d2, _, by simp only [opS, e1, if_pos h1, e2], hJ.set .nil { noOp with kind := c, key := t }, holds.over ⟨rfl, rfl, trivial⟩⟩
    have h1 : ¬ (c = 1 ∨ c = 3) := by simpa using h
    repeat (first | refine LOps.nil ?_ | refine andThen_normal ?_ | refine andThen_exit ?_ | refine andThen_ret ?_ | refine inBlock_normal ?_ | refine inBlock_ret ?_ | refine inBlock_here ?_ | refine inBlock_out rfl ?_ | refine LWp.seq ?_ | refine LWp.region ?_ | refine LWp.block ?_ | refine LWp.exit ?_ | refine LWp.ret ?_ | refine LWp.skip ?_ | refine LOps.valA ?_ | refine LOps.outA ?_ | refine LOps.whenA ?_ | refine LOps.pickA ?_ | refine LOps.storeA ?_)
    refine LWp.cond rfl (fun h => ?_) (fun h => ?_)
    · have h2 : c = 2 := by simp at h; omega
      obtain ⟨t, p2, d2, e2, hp, hc⟩ := text_C hP hl hJ.kb hJ.hp
      repeat (first | refine LOps.nil ?_ | refine andThen_normal ?_ | refine andThen_exit ?_ | refine andThen_ret ?_ | refine inBlock_normal ?_ | refine inBlock_ret ?_ | refine inBlock_here ?_ | refine inBlock_out rfl ?_ | refine LWp.seq ?_ | refine LWp.region ?_ | refine LWp.block ?_ | refine LWp.exit ?_ | refine LWp.ret ?_ | refine LWp.skip ?_ | refine LOps.valA ?_ | refine LOps.outA ?_ | refine LOps.whenA ?_ | refine LOps.pickA ?_ | refine LOps.storeA ?_)
      refine LOps.do (LDo.callF hc (by rw [hP]; exact Try.func33)) rfl rfl rfl ?_
      rintro _ S5 ⟨o4, kb, rfl⟩
      have hJ := hJ.step o4 kb hp
      have k3 := hJ.k3
      obtain ⟨u, p3, d3, e3, hp, hc⟩ := text_C hP hl hJ.kb hJ.hp
      repeat (first | refine LOps.nil ?_ | refine andThen_normal ?_ | refine andThen_exit ?_ | refine andThen_ret ?_ | refine inBlock_normal ?_ | refine inBlock_ret ?_ | refine inBlock_here ?_ | refine inBlock_out rfl ?_ | refine LWp.seq ?_ | refine LWp.region ?_ | refine LWp.block ?_ | refine LWp.exit ?_ | refine LWp.ret ?_ | refine LWp.skip ?_ | refine LOps.valA ?_ | refine LOps.outA ?_ | refine LOps.whenA ?_ | refine LOps.pickA ?_ | refine LOps.storeA ?_)
      refine LOps.do (LDo.callF hc (by rw [hP]; exact Try.func33)) rfl rfl rfl ?_
      rintro _ S6 ⟨o4, kb, rfl⟩
      have hJ := hJ.step o4 kb hp
      have k3 := hJ.k3
      repeat (first | refine LOps.nil ?_ | refine andThen_normal ?_ | refine andThen_exit ?_ | refine andThen_ret ?_ | refine inBlock_normal ?_ | refine inBlock_ret ?_ | refine inBlock_here ?_ | refine inBlock_out rfl ?_ | refine LWp.seq ?_ | refine LWp.region ?_ | refine LWp.block ?_ | refine LWp.exit ?_ | refine LWp.ret ?_ | refine LWp.skip ?_ | refine LOps.valA ?_ | refine LOps.outA ?_ | refine LOps.whenA ?_ | refine LOps.pickA ?_ | refine LOps.storeA ?_)
      exact ⟨{ noOp with kind := c, key := t, val := u }, .nil, p3, d3, _, by simp only [opS, e1, if_neg h1, if_pos h2, e2, e3], (hJ.set .nil { noOp with kind := c, key := t }).set .nil { noOp with kind := c, key := t, val := u }, holds.over ⟨rfl, rfl, trivial⟩⟩
    have h2 : ¬ c = 2 := by simp at h; omega
    repeat (first | refine LOps.nil ?_ | refine andThen_normal ?_ | refine andThen_exit ?_ | refine andThen_ret ?_ | refine inBlock_normal ?_ | refine inBlock_ret ?_ | refine inBlock_here ?_ | refine inBlock_out rfl ?_ | refine LWp.seq ?_ | refine LWp.region ?_ | refine LWp.block ?_ | refine LWp.exit ?_ | refine LWp.ret ?_ | refine LWp.skip ?_ | refine LOps.valA ?_ | refine LOps.outA ?_ | refine LOps.whenA ?_ | refine LOps.pickA ?_ | refine LOps.storeA ?_)
    refine LWp.cond rfl (fun h => ?_) (fun h => ?_)
    · have h4 : c = 4 := by simp at h; omega
      obtain ⟨t, p2, d2, e2, hp, hc⟩ := text_C hP hl hJ.kb hJ.hp
      repeat (first | refine LOps.nil ?_ | refine andThen_normal ?_ | refine andThen_exit ?_ | refine andThen_ret ?_ | refine inBlock_normal ?_ | refine inBlock_ret ?_ | refine inBlock_here ?_ | refine inBlock_out rfl ?_ | refine LWp.seq ?_ | refine LWp.region ?_ | refine LWp.block ?_ | refine LWp.exit ?_ | refine LWp.ret ?_ | refine LWp.skip ?_ | refine LOps.valA ?_ | refine LOps.outA ?_ | refine LOps.whenA ?_ | refine LOps.pickA ?_ | refine LOps.storeA ?_)
      refine LOps.do (LDo.callF hc (by rw [hP]; exact Try.func33)) rfl rfl rfl ?_
      rintro _ S5 ⟨o4, kb, rfl⟩
      have hJ := hJ.step o4 kb hp
      have k3 := hJ.k3
      obtain ⟨u, p3, d3, e3, hp, hc⟩ := text_C hP hl hJ.kb hJ.hp
      repeat (first | refine LOps.nil ?_ | refine andThen_normal ?_ | refine andThen_exit ?_ | refine andThen_ret ?_ | refine inBlock_normal ?_ | refine inBlock_ret ?_ | refine inBlock_here ?_ | refine inBlock_out rfl ?_ | refine LWp.seq ?_ | refine LWp.region ?_ | refine LWp.block ?_ | refine LWp.exit ?_ | refine LWp.ret ?_ | refine LWp.skip ?_ | refine LOps.valA ?_ | refine LOps.outA ?_ | refine LOps.whenA ?_ | refine LOps.pickA ?_ | refine LOps.storeA ?_)
      refine LOps.do (LDo.callF hc (by rw [hP]; exact Try.func33)) rfl rfl rfl ?_
      rintro _ S6 ⟨o4, kb, rfl⟩
      have hJ := hJ.step o4 kb hp
      have k3 := hJ.k3
      repeat (first | refine LOps.gen (fun S7 => OpJ S S7 b b2 b3 bs p3 d3 .nil { noOp with kind := c, key := t, val := u }) ((hJ.set .nil { noOp with kind := c, key := t }).set .nil { noOp with kind := c, key := t, val := u }) ?_ | refine LOps.nil ?_ | refine andThen_normal ?_ | refine andThen_exit ?_ | refine andThen_ret ?_ | refine inBlock_normal ?_ | refine inBlock_ret ?_ | refine inBlock_here ?_ | refine inBlock_out rfl ?_ | refine LWp.seq ?_ | refine LWp.region ?_ | refine LWp.block ?_ | refine LWp.exit ?_ | refine LWp.ret ?_ | refine LWp.skip ?_ | refine LOps.valA ?_ | refine LOps.outA ?_ | refine LOps.whenA ?_ | refine LOps.pickA ?_ | refine LOps.storeA ?_)
      clear hJ k3
      intro S7 hJ
      have k3 := hJ.k3
      obtain ⟨g, p4, d4, e4, hp, hc⟩ := mark_C hP hl hJ.kb hJ.hp
      repeat (first | refine LOps.nil ?_ | refine andThen_normal ?_ | refine andThen_exit ?_ | refine andThen_ret ?_ | refine inBlock_normal ?_ | refine inBlock_ret ?_ | refine inBlock_here ?_ | refine inBlock_out rfl ?_ | refine LWp.seq ?_ | refine LWp.region ?_ | refine LWp.block ?_ | refine LWp.exit ?_ | refine LWp.ret ?_ | refine LWp.skip ?_ | refine LOps.valA ?_ | refine LOps.outA ?_ | refine LOps.whenA ?_ | refine LOps.pickA ?_ | refine LOps.storeA ?_)
      refine LOps.do (LDo.callF hc (by rw [hP]; exact Try.func34)) rfl rfl rfl ?_
      rintro _ S8 ⟨o4, kb, rfl⟩
      have hJ := hJ.step o4 kb hp
      have k3 := hJ.k3
      repeat (first | refine LOps.gen (fun S7 => OpJ S S7 b b2 b3 bs p4 d4 .nil { noOp with kind := c, key := t, val := u, had := g }) (hJ.set .nil { noOp with kind := c, key := t, val := u, had := g }) ?_ | refine LOps.nil ?_ | refine andThen_normal ?_ | refine andThen_exit ?_ | refine andThen_ret ?_ | refine inBlock_normal ?_ | refine inBlock_ret ?_ | refine inBlock_here ?_ | refine inBlock_out rfl ?_ | refine LWp.seq ?_ | refine LWp.region ?_ | refine LWp.block ?_ | refine LWp.exit ?_ | refine LWp.ret ?_ | refine LWp.skip ?_ | refine LOps.valA ?_ | refine LOps.outA ?_ | refine LOps.whenA ?_ | refine LOps.pickA ?_ | refine LOps.storeA ?_)
      clear hJ k3
      intro S9 hJ
      have k3 := hJ.k3
      repeat (first | refine LOps.nil ?_ | refine andThen_normal ?_ | refine andThen_exit ?_ | refine andThen_ret ?_ | refine inBlock_normal ?_ | refine inBlock_ret ?_ | refine inBlock_here ?_ | refine inBlock_out rfl ?_ | refine LWp.seq ?_ | refine LWp.region ?_ | refine LWp.block ?_ | refine LWp.exit ?_ | refine LWp.ret ?_ | refine LWp.skip ?_ | refine LOps.valA ?_ | refine LOps.outA ?_ | refine LOps.whenA ?_ | refine LOps.pickA ?_ | refine LOps.storeA ?_)
      refine LWp.cond rfl (fun h => ?_) (fun h => ?_)
      · have hg : g = true := h
        subst hg
        obtain ⟨v, p5, d5, e5, hp, hc⟩ := text_C hP hl hJ.kb hJ.hp
        repeat (first | refine LOps.nil ?_ | refine andThen_normal ?_ | refine andThen_exit ?_ | refine andThen_ret ?_ | refine inBlock_normal ?_ | refine inBlock_ret ?_ | refine inBlock_here ?_ | refine inBlock_out rfl ?_ | refine LWp.seq ?_ | refine LWp.region ?_ | refine LWp.block ?_ | refine LWp.exit ?_ | refine LWp.ret ?_ | refine LWp.skip ?_ | refine LOps.valA ?_ | refine LOps.outA ?_ | refine LOps.whenA ?_ | refine LOps.pickA ?_ | refine LOps.storeA ?_)
        refine LOps.do (LDo.callF hc (by rw [hP]; exact Try.func33)) rfl rfl rfl ?_
        rintro _ S10 ⟨o4, kb, rfl⟩
        have hJ := hJ.step o4 kb hp
        have k3 := hJ.k3
        repeat (first | refine LOps.nil ?_ | refine andThen_normal ?_ | refine andThen_exit ?_ | refine andThen_ret ?_ | refine inBlock_normal ?_ | refine inBlock_ret ?_ | refine inBlock_here ?_ | refine inBlock_out rfl ?_ | refine LWp.seq ?_ | refine LWp.region ?_ | refine LWp.block ?_ | refine LWp.exit ?_ | refine LWp.ret ?_ | refine LWp.skip ?_ | refine LOps.valA ?_ | refine LOps.outA ?_ | refine LOps.whenA ?_ | refine LOps.pickA ?_ | refine LOps.storeA ?_)
        exact ⟨{ noOp with kind := c, key := t, val := u, had := true, old := v }, .nil, p5, d5, _, by simp only [opS, e1, if_neg h1, if_neg h2, if_pos h4, e2, e3, e4, e5, if_true], hJ.set .nil { noOp with kind := c, key := t, val := u, had := true, old := v }, holds.over ⟨rfl, rfl, trivial⟩⟩
      · have hg : g = false := h
        subst hg
        repeat (first | refine LOps.nil ?_ | refine andThen_normal ?_ | refine andThen_exit ?_ | refine andThen_ret ?_ | refine inBlock_normal ?_ | refine inBlock_ret ?_ | refine inBlock_here ?_ | refine inBlock_out rfl ?_ | refine LWp.seq ?_ | refine LWp.region ?_ | refine LWp.block ?_ | refine LWp.exit ?_ | refine LWp.ret ?_ | refine LWp.skip ?_ | refine LOps.valA ?_ | refine LOps.outA ?_ | refine LOps.whenA ?_ | refine LOps.pickA ?_ | refine LOps.storeA ?_)
        exact ⟨{ noOp with kind := c, key := t, val := u, had := false }, .nil, p4, d4, _, by simp only [opS, e1, if_neg h1, if_neg h2, if_pos h4, e2, e3, e4]; rfl, hJ, holds.over ⟨rfl, rfl, trivial⟩⟩
    have h4 : ¬ c = 4 := by simp at h; omega
    repeat (first | refine LOps.nil ?_ | refine andThen_normal ?_ | refine andThen_exit ?_ | refine andThen_ret ?_ | refine inBlock_normal ?_ | refine inBlock_ret ?_ | refine inBlock_here ?_ | refine inBlock_out rfl ?_ | refine LWp.seq ?_ | refine LWp.region ?_ | refine LWp.block ?_ | refine LWp.exit ?_ | refine LWp.ret ?_ | refine LWp.skip ?_ | refine LOps.valA ?_ | refine LOps.outA ?_ | refine LOps.whenA ?_ | refine LOps.pickA ?_ | refine LOps.storeA ?_)
    refine LWp.cond rfl (fun h => ?_) (fun h => ?_)
    · have h5 : c = 5 := by simp at h; omega
      obtain ⟨t, p2, d2, e2, hp, hc⟩ := text_C hP hl hJ.kb hJ.hp
      repeat (first | refine LOps.nil ?_ | refine andThen_normal ?_ | refine andThen_exit ?_ | refine andThen_ret ?_ | refine inBlock_normal ?_ | refine inBlock_ret ?_ | refine inBlock_here ?_ | refine inBlock_out rfl ?_ | refine LWp.seq ?_ | refine LWp.region ?_ | refine LWp.block ?_ | refine LWp.exit ?_ | refine LWp.ret ?_ | refine LWp.skip ?_ | refine LOps.valA ?_ | refine LOps.outA ?_ | refine LOps.whenA ?_ | refine LOps.pickA ?_ | refine LOps.storeA ?_)
      refine LOps.do (LDo.callF hc (by rw [hP]; exact Try.func33)) rfl rfl rfl ?_
      rintro _ S5 ⟨o4, kb, rfl⟩
      have hJ := hJ.step o4 kb hp
      have k3 := hJ.k3
      obtain ⟨g, p4, d4, e4, hp, hc⟩ := mark_C hP hl hJ.kb hJ.hp
      repeat (first | refine LOps.nil ?_ | refine andThen_normal ?_ | refine andThen_exit ?_ | refine andThen_ret ?_ | refine inBlock_normal ?_ | refine inBlock_ret ?_ | refine inBlock_here ?_ | refine inBlock_out rfl ?_ | refine LWp.seq ?_ | refine LWp.region ?_ | refine LWp.block ?_ | refine LWp.exit ?_ | refine LWp.ret ?_ | refine LWp.skip ?_ | refine LOps.valA ?_ | refine LOps.outA ?_ | refine LOps.whenA ?_ | refine LOps.pickA ?_ | refine LOps.storeA ?_)
      refine LOps.do (LDo.callF hc (by rw [hP]; exact Try.func34)) rfl rfl rfl ?_
      rintro _ S8 ⟨o4, kb, rfl⟩
      have hJ := hJ.step o4 kb hp
      have k3 := hJ.k3
      repeat (first | refine LOps.nil ?_ | refine andThen_normal ?_ | refine andThen_exit ?_ | refine andThen_ret ?_ | refine inBlock_normal ?_ | refine inBlock_ret ?_ | refine inBlock_here ?_ | refine inBlock_out rfl ?_ | refine LWp.seq ?_ | refine LWp.region ?_ | refine LWp.block ?_ | refine LWp.exit ?_ | refine LWp.ret ?_ | refine LWp.skip ?_ | refine LOps.valA ?_ | refine LOps.outA ?_ | refine LOps.whenA ?_ | refine LOps.pickA ?_ | refine LOps.storeA ?_)
      exact ⟨{ noOp with kind := c, key := t, after := g }, .nil, p4, d4, _, by simp only [opS, e1, if_neg h1, if_neg h2, if_neg h4, if_pos h5, e2, e4], (hJ.set .nil { noOp with kind := c, key := t }).set .nil { noOp with kind := c, key := t, after := g }, holds.over ⟨rfl, rfl, trivial⟩⟩
    have h5 : ¬ c = 5 := by simp at h; omega
    repeat (first | refine LOps.nil ?_ | refine andThen_normal ?_ | refine andThen_exit ?_ | refine andThen_ret ?_ | refine inBlock_normal ?_ | refine inBlock_ret ?_ | refine inBlock_here ?_ | refine inBlock_out rfl ?_ | refine LWp.seq ?_ | refine LWp.region ?_ | refine LWp.block ?_ | refine LWp.exit ?_ | refine LWp.ret ?_ | refine LWp.skip ?_ | refine LOps.valA ?_ | refine LOps.outA ?_ | refine LOps.whenA ?_ | refine LOps.pickA ?_ | refine LOps.storeA ?_)
    refine LWp.cond rfl (fun h => ?_) (fun h => ?_)
    · have h6 : c = 6 := by simp at h; omega
      obtain ⟨n, p2, d2, e2, n256, hp, hc⟩ := byte_C hP hl hJ.kb hJ.hp
      repeat (first | refine LOps.nil ?_ | refine andThen_normal ?_ | refine andThen_exit ?_ | refine andThen_ret ?_ | refine inBlock_normal ?_ | refine inBlock_ret ?_ | refine inBlock_here ?_ | refine inBlock_out rfl ?_ | refine LWp.seq ?_ | refine LWp.region ?_ | refine LWp.block ?_ | refine LWp.exit ?_ | refine LWp.ret ?_ | refine LWp.skip ?_ | refine LOps.valA ?_ | refine LOps.outA ?_ | refine LOps.whenA ?_ | refine LOps.pickA ?_ | refine LOps.storeA ?_)
      refine LOps.do (LDo.callF hc (by rw [hP]; exact Try.func24)) rfl rfl rfl ?_
      rintro _ S5 ⟨o4, kb, rfl⟩
      have hJ := hJ.step o4 kb hp
      have k3 := hJ.k3
      clear k3
      repeat (first | refine LOps.nil ?_ | refine andThen_normal ?_ | refine andThen_exit ?_ | refine andThen_ret ?_ | refine inBlock_normal ?_ | refine inBlock_ret ?_ | refine inBlock_here ?_ | refine inBlock_out rfl ?_ | refine LWp.seq ?_ | refine LWp.region ?_ | refine LWp.block ?_ | refine LWp.exit ?_ | refine LWp.ret ?_ | refine LWp.skip ?_ | refine LOps.valA ?_ | refine LOps.outA ?_ | refine LOps.whenA ?_ | refine LOps.pickA ?_ | refine LOps.storeA ?_)
      refine LWp.loop (fun k T S' => ∃ (T' : Nat → TV) (j : Nat) (acc : List Wr) (o : Own) (p' : Nat) (d' : Bool), j ≤ n ∧ k = n - j ∧ acc.length = j ∧ OpJ S S' b b2 b3 bs p' d' o { noOp with kind := c, writes := acc } ∧ Owned S' 51 acc.length o ∧ Out S o ∧ (∀ x, o = .own x → ¬ x = b) ∧
        writesS bs n (p2, d2) = (acc ++ (writesS bs (n - j) (p', d')).1, (writesS bs (n - j) (p', d')).2) ∧ T = over T' [(0, ptr b), (2, ptr b2), (3, ptr b3), (55, .one (iv (n : Nat))), (56, .one (iv (j : Nat)))]) n ?_ ?_
      · exact ⟨_, 0, [], .nil, p2, d2, by omega, by omega, rfl, hJ, rfl, .nil _, (fun x hx => by cases hx), rfl, holds.over ⟨rfl, rfl, rfl, rfl, rfl, trivial⟩⟩
      clear hJ
      rintro k T S6 ⟨T', j, acc, o, q0, f0, hj, rfl, hacc, hJ, own, hout, nob, hw, rfl⟩
      have k3 := hJ.k3
      repeat (first | refine LOps.nil ?_ | refine andThen_normal ?_ | refine andThen_exit ?_ | refine andThen_ret ?_ | refine inBlock_normal ?_ | refine inBlock_ret ?_ | refine inBlock_here ?_ | refine inBlock_out rfl ?_ | refine LWp.seq ?_ | refine LWp.region ?_ | refine LWp.block ?_ | refine LWp.exit ?_ | refine LWp.ret ?_ | refine LWp.skip ?_ | refine LOps.valA ?_ | refine LOps.outA ?_ | refine LOps.whenA ?_ | refine LOps.pickA ?_ | refine LOps.storeA ?_)
      refine LWp.cond rfl (fun h => ?_) (fun h => ?_)
      · have hlt : j < n := by simp at h; omega
        obtain ⟨t, q1, f1, a1, hp, hc⟩ := text_C hP hl hJ.kb hJ.hp
        repeat (first | refine LOps.nil ?_ | refine andThen_normal ?_ | refine andThen_exit ?_ | refine andThen_ret ?_ | refine inBlock_normal ?_ | refine inBlock_ret ?_ | refine inBlock_here ?_ | refine inBlock_out rfl ?_ | refine LWp.seq ?_ | refine LWp.region ?_ | refine LWp.block ?_ | refine LWp.exit ?_ | refine LWp.ret ?_ | refine LWp.skip ?_ | refine LOps.valA ?_ | refine LOps.outA ?_ | refine LOps.whenA ?_ | refine LOps.pickA ?_ | refine LOps.storeA ?_)
        refine LOps.do (LDo.callF hc (by rw [hP]; exact Try.func33)) rfl rfl rfl ?_
        rintro _ S7 ⟨o4, kb, rfl⟩
        have hJ := hJ.step o4 kb hp
        have k3 := hJ.k3
        have own := own.only o4 nob
        obtain ⟨g, q2, f2, a2, hp, hc⟩ := mark_C hP hl hJ.kb hJ.hp
        repeat (first | refine LOps.nil ?_ | refine andThen_normal ?_ | refine andThen_exit ?_ | refine andThen_ret ?_ | refine inBlock_normal ?_ | refine inBlock_ret ?_ | refine inBlock_here ?_ | refine inBlock_out rfl ?_ | refine LWp.seq ?_ | refine LWp.region ?_ | refine LWp.block ?_ | refine LWp.exit ?_ | refine LWp.ret ?_ | refine LWp.skip ?_ | refine LOps.valA ?_ | refine LOps.outA ?_ | refine LOps.whenA ?_ | refine LOps.pickA ?_ | refine LOps.storeA ?_)
        refine LOps.do (LDo.callF hc (by rw [hP]; exact Try.func34)) rfl rfl rfl ?_
        rintro _ S8 ⟨o4, kb, rfl⟩
        have hJ := hJ.step o4 kb hp
        have k3 := hJ.k3
        have own := own.only o4 nob
        repeat (first | refine LOps.nil ?_ | refine andThen_normal ?_ | refine andThen_exit ?_ | refine andThen_ret ?_ | refine inBlock_normal ?_ | refine inBlock_ret ?_ | refine inBlock_here ?_ | refine inBlock_out rfl ?_ | refine LWp.seq ?_ | refine LWp.region ?_ | refine LWp.block ?_ | refine LWp.exit ?_ | refine LWp.ret ?_ | refine LWp.skip ?_ | refine LOps.valA ?_ | refine LOps.outA ?_ | refine LOps.whenA ?_ | refine LOps.pickA ?_ | refine LOps.storeA ?_)
        refine LOps.do (LDo.alloc hD rfl rfl rfl) rfl rfl rfl ?_
        rintro _ _ ⟨b4, hb4, rfl, rfl⟩
        have m1 := fresh_ne hb4 hJ.kb
        have m2 := fresh_ne hb4 hJ.k2
        have m3 := fresh_ne hb4 hJ.k3
        have s4 := hJ.none hb4
        repeat (first | refine LOps.gen (fun S9 => OpJ S S9 b b2 b3 bs q2 f2 o { noOp with kind := c, writes := acc } ∧ Owned S9 51 acc.length o ∧ S9.box b4 = some (wrL ⟨t, noBytes, g⟩)) ⟨(hJ.new hb4 _).put m1 m2 m3 s4 _, own, box_set _ _ _⟩ ?_ | refine LOps.nil ?_ | refine andThen_normal ?_ | refine andThen_exit ?_ | refine andThen_ret ?_ | refine inBlock_normal ?_ | refine inBlock_ret ?_ | refine inBlock_here ?_ | refine inBlock_out rfl ?_ | refine LWp.seq ?_ | refine LWp.region ?_ | refine LWp.block ?_ | refine LWp.exit ?_ | refine LWp.ret ?_ | refine LWp.skip ?_ | refine LOps.valA ?_ | refine LOps.outA ?_ | refine LOps.whenA ?_ | refine LOps.pickA ?_ | refine LOps.storeA ?_)
        clear hJ own hb4 k3
        rintro S9 ⟨hJ, own, k4⟩
        have k3 := hJ.k3
        repeat (first | refine LWp.seq (LWp.cut 20 (fun T' S' => ∃ (v : ByteArray) (q3 : Nat) (f3 : Bool) (T'' : Nat → TV), (if g then (noBytes, (q2, f2)) else textS bs (q2, f2)) = (v, (q3, f3)) ∧ OpJ S S' b b2 b3 bs q3 f3 o { noOp with kind := c, writes := acc } ∧ Owned S' 51 acc.length o ∧ S'.box b4 = some (wrL ⟨t, v, g⟩) ∧ T' = over T'' [(0, ptr b), (2, ptr b2), (3, ptr b3), (4, ptr b4), (55, .one (iv (n : Nat))), (56, .one (iv (j : Nat)))]) rfl ?_ ?_) | refine LOps.nil ?_ | refine andThen_normal ?_ | refine andThen_exit ?_ | refine andThen_ret ?_ | refine inBlock_normal ?_ | refine inBlock_ret ?_ | refine inBlock_here ?_ | refine inBlock_out rfl ?_ | refine LWp.seq ?_ | refine LWp.region ?_ | refine LWp.block ?_ | refine LWp.exit ?_ | refine LWp.ret ?_ | refine LWp.skip ?_ | refine LOps.valA ?_ | refine LOps.outA ?_ | refine LOps.whenA ?_ | refine LOps.pickA ?_ | refine LOps.storeA ?_)
        · repeat (first | refine LOps.nil ?_ | refine andThen_normal ?_ | refine andThen_exit ?_ | refine andThen_ret ?_ | refine inBlock_normal ?_ | refine inBlock_ret ?_ | refine inBlock_here ?_ | refine inBlock_out rfl ?_ | refine LWp.seq ?_ | refine LWp.region ?_ | refine LWp.block ?_ | refine LWp.exit ?_ | refine LWp.ret ?_ | refine LWp.skip ?_ | refine LOps.valA ?_ | refine LOps.outA ?_ | refine LOps.whenA ?_ | refine LOps.pickA ?_ | refine LOps.storeA ?_)
          refine LWp.cond rfl (fun h => ?_) (fun h => ?_)
          · have hg : g = false := by simpa using h
            subst hg
            obtain ⟨v, q3, f3, a3, hp, hc⟩ := text_C hP hl hJ.kb hJ.hp
            repeat (first | refine LOps.nil ?_ | refine andThen_normal ?_ | refine andThen_exit ?_ | refine andThen_ret ?_ | refine inBlock_normal ?_ | refine inBlock_ret ?_ | refine inBlock_here ?_ | refine inBlock_out rfl ?_ | refine LWp.seq ?_ | refine LWp.region ?_ | refine LWp.block ?_ | refine LWp.exit ?_ | refine LWp.ret ?_ | refine LWp.skip ?_ | refine LOps.valA ?_ | refine LOps.outA ?_ | refine LOps.whenA ?_ | refine LOps.pickA ?_ | refine LOps.storeA ?_)
            refine LOps.do (LDo.callF hc (by rw [hP]; exact Try.func33)) rfl rfl rfl ?_
            rintro _ S10 ⟨o4, kb, rfl⟩
            have hJ := hJ.step o4 kb hp
            have k3 := hJ.k3
            have own := own.only o4 nob
            have k4 := o4.box _ _ (fun e => m1 e.symm) k4
            repeat (first | refine LOps.nil ?_ | refine andThen_normal ?_ | refine andThen_exit ?_ | refine andThen_ret ?_ | refine inBlock_normal ?_ | refine inBlock_ret ?_ | refine inBlock_here ?_ | refine inBlock_out rfl ?_ | refine LWp.seq ?_ | refine LWp.region ?_ | refine LWp.block ?_ | refine LWp.exit ?_ | refine LWp.ret ?_ | refine LWp.skip ?_ | refine LOps.valA ?_ | refine LOps.outA ?_ | refine LOps.whenA ?_ | refine LOps.pickA ?_ | refine LOps.storeA ?_)
            exact ⟨v, q3, f3, _, a3, hJ.put m1 m2 m3 s4 _, own, box_set _ _ _, holds.over ⟨rfl, rfl, rfl, rfl, rfl, rfl, trivial⟩⟩
          · have hg : g = true := by simpa using h
            subst hg
            repeat (first | refine LOps.nil ?_ | refine andThen_normal ?_ | refine andThen_exit ?_ | refine andThen_ret ?_ | refine inBlock_normal ?_ | refine inBlock_ret ?_ | refine inBlock_here ?_ | refine inBlock_out rfl ?_ | refine LWp.seq ?_ | refine LWp.region ?_ | refine LWp.block ?_ | refine LWp.exit ?_ | refine LWp.ret ?_ | refine LWp.skip ?_ | refine LOps.valA ?_ | refine LOps.outA ?_ | refine LOps.whenA ?_ | refine LOps.pickA ?_ | refine LOps.storeA ?_)
            exact ⟨noBytes, q2, f2, _, rfl, hJ, own, k4, holds.over ⟨rfl, rfl, rfl, rfl, rfl, rfl, trivial⟩⟩
        clear hJ own k4 k3
        rintro T S10 ⟨v, q3, f3, T'', a3, hJ, own, k4, rfl⟩
        have k3 := hJ.k3
        repeat (first | refine LOps.nil ?_ | refine andThen_normal ?_ | refine andThen_exit ?_ | refine andThen_ret ?_ | refine inBlock_normal ?_ | refine inBlock_ret ?_ | refine inBlock_here ?_ | refine inBlock_out rfl ?_ | refine LWp.seq ?_ | refine LWp.region ?_ | refine LWp.block ?_ | refine LWp.exit ?_ | refine LWp.ret ?_ | refine LWp.skip ?_ | refine LOps.valA ?_ | refine LOps.outA ?_ | refine LOps.whenA ?_ | refine LOps.pickA ?_ | refine LOps.storeA ?_)
        refine LOps.do (LDo.push hD rfl rfl rfl rfl rfl rfl rfl rfl rfl rfl (show _ = acc.length by simp) own (by omega)) rfl rfl rfl ?_
        rintro _ S11 ⟨o3, rfl, own3, hup, hno⟩
        have hJ2 := hJ.upto hup hout
        have k3 := hJ2.k3
        repeat (first | refine LOps.nil ?_ | refine andThen_normal ?_ | refine andThen_exit ?_ | refine andThen_ret ?_ | refine inBlock_normal ?_ | refine inBlock_ret ?_ | refine inBlock_here ?_ | refine inBlock_out rfl ?_ | refine LWp.seq ?_ | refine LWp.region ?_ | refine LWp.block ?_ | refine LWp.exit ?_ | refine LWp.ret ?_ | refine LWp.skip ?_ | refine LOps.valA ?_ | refine LOps.outA ?_ | refine LOps.whenA ?_ | refine LOps.pickA ?_ | refine LOps.storeA ?_)
        refine ⟨n - (j + 1), by omega, _, j + 1, acc ++ [⟨t, v, g⟩], o3, q3, f3, by omega, rfl, by simp [hacc], ?_, ?_, fun x hx => ?_, fun x hx => ?_, ?_, holds.over ⟨rfl, rfl, rfl, rfl, rfl, trivial⟩⟩
        · have := hJ2.set o3 { noOp with kind := c, writes := acc ++ [⟨t, v, g⟩] }
          simp only [opW, List.map_append] at this
          exact this
        · exact (own3.ofN (by simp)).setBox
        · rcases hno x hx with e | e
          · exact hout x e
          · cases hq : S.row x with
            | none => rfl
            | some y =>
              have := hJ.only.row x y (fun eb => by have := hJ.kb; rw [← eb, e.box] at this; cases this) hq
              rw [e.row] at this; cases this
        · rcases hno x hx with e | e
          · exact nob x e
          · rintro rfl
            have := hJ.kb
            rw [e.box] at this; cases this
        · rw [hw, show n - j = (n - (j + 1)) + 1 by omega]
          simp only [writesS, a1, a2, a3, List.append_assoc, List.cons_append, List.nil_append]
      · have hge : j = n := by simp at h; omega
        subst hge
        rw [Nat.sub_self] at hw
        repeat (first | refine LOps.nil ?_ | refine andThen_normal ?_ | refine andThen_exit ?_ | refine andThen_ret ?_ | refine inBlock_normal ?_ | refine inBlock_ret ?_ | refine inBlock_here ?_ | refine inBlock_out rfl ?_ | refine LWp.seq ?_ | refine LWp.region ?_ | refine LWp.block ?_ | refine LWp.exit ?_ | refine LWp.ret ?_ | refine LWp.skip ?_ | refine LOps.valA ?_ | refine LOps.outA ?_ | refine LOps.whenA ?_ | refine LOps.pickA ?_ | refine LOps.storeA ?_)
        exact ⟨{ noOp with kind := c, writes := acc }, o, q0, f0, _, by simp only [opS, e1, if_neg h1, if_neg h2, if_neg h4, if_neg h5, if_pos h6, e2, hw]; simp [writesS], hJ, holds.over ⟨rfl, rfl, trivial⟩⟩
    have h6 : ¬ c = 6 := by simp at h; omega
    have kb := hJ.kb
    repeat (first | refine LOps.nil ?_ | refine andThen_normal ?_ | refine andThen_exit ?_ | refine andThen_ret ?_ | refine inBlock_normal ?_ | refine inBlock_ret ?_ | refine inBlock_here ?_ | refine inBlock_out rfl ?_ | refine LWp.seq ?_ | refine LWp.region ?_ | refine LWp.block ?_ | refine LWp.exit ?_ | refine LWp.ret ?_ | refine LWp.skip ?_ | refine LOps.valA ?_ | refine LOps.outA ?_ | refine LOps.whenA ?_ | refine LOps.pickA ?_ | refine LOps.storeA ?_)
    exact ⟨{ noOp with kind := c }, .nil, p1, true, _, by simp only [opS, e1, if_neg h1, if_neg h2, if_neg h4, if_neg h5, if_neg h6], hJ.bad, holds.over ⟨rfl, rfl, trivial⟩⟩
  rintro T' S4 ⟨x, o, p', d', T'', he, hJ, rfl⟩
  have k2 := hJ.k2
  have k3 := hJ.k3
  repeat (first | refine LOps.nil ?_ | refine andThen_normal ?_ | refine andThen_exit ?_ | refine andThen_ret ?_ | refine inBlock_normal ?_ | refine inBlock_ret ?_ | refine inBlock_here ?_ | refine inBlock_out rfl ?_ | refine LWp.seq ?_ | refine LWp.region ?_ | refine LWp.block ?_ | refine LWp.exit ?_ | refine LWp.ret ?_ | refine LWp.skip ?_ | refine LOps.valA ?_ | refine LOps.outA ?_ | refine LOps.whenA ?_ | refine LOps.pickA ?_ | refine LOps.storeA ?_)
  refine ⟨_, LRes.sh (LRes.cell rfl (.cell rfl (box_set _ _ _) (hP ▸ tok33) rfl)), hJ.only.setNew s2 _, ?_, ?_⟩
  · rw [he]; exact (box_set_ne _ _ nb2).trans hJ.kb
  · rw [he]; rfl
end Go.Proofs.Ytbifiagpmoakdaa.LF
