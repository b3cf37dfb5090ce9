/- The reader's entry. -/
import Derived.Test.YtbifiagpmoakdaaLSc
set_option linter.unusedVariables false
set_option linter.unusedSimpArgs false
namespace Go.Proofs.Ytbifiagpmoakdaa.LF
open Go.RowKit

/-- What stands while an entry is read. -/
structure EnJ (S0 S : LS) (b b2 b3 : Nat) (bs : List UInt8) (p : Nat) (d : Bool) (x : List LV) : Prop where
  only : S0.only (· = b) S
  kb : S.box b = some (rdL bs p d)
  k2 : S.box b2 = some (lzero ti35)
  k3 : S.box b3 = some x
  hp : p ≤ bs.length
  n2 : ¬ b2 = b
  n3 : ¬ b3 = b
  n23 : b2 ≠ b3
  s3 : S0.box b3 = none

theorem EnJ.step {S0 S S' : LS} {b b2 b3 : Nat} {bs : List UInt8} {p p' : Nat} {d d' : Bool} {x : List LV} (h : EnJ S0 S b b2 b3 bs p d x) (k : S.only (· = b) S') (kb : S'.box b = some (rdL bs p' d')) (hp : p' ≤ bs.length) : EnJ S0 S' b b2 b3 bs p' d' x :=
  ⟨h.only.trans k, kb, k.box _ _ h.n2 h.k2, k.box _ _ h.n3 h.k3, hp, h.n2, h.n3, h.n23, h.s3⟩
theorem EnJ.set {S0 S : LS} {b b2 b3 : Nat} {bs : List UInt8} {p : Nat} {d : Bool} {x : List LV} (h : EnJ S0 S b b2 b3 bs p d x) (x' : List LV) : EnJ S0 (S.setBox b3 x') b b2 b3 bs p d x' :=
  ⟨h.only.setNew h.s3 _, (box_set_ne _ _ (fun e => h.n3 e.symm)).trans h.kb, (box_set_ne _ _ h.n23).trans h.k2, box_set _ _ _, h.hp, h.n2, h.n3, h.n23, h.s3⟩
theorem EnJ.bad {S0 S : LS} {b b2 b3 : Nat} {bs : List UInt8} {p : Nat} {d : Bool} {x : List LV} (h : EnJ S0 S b b2 b3 bs p d x) : EnJ S0 (S.setBox b (rdL bs p true)) b b2 b3 bs p true x :=
  ⟨h.only.trans (.setBox (F := (· = b)) rfl _), box_set _ _ _, (box_set_ne _ _ h.n2).trans h.k2, (box_set_ne _ _ h.n3).trans h.k3, h.hp, h.n2, h.n3, h.n23, h.s3⟩

theorem number_C {G : Ctx} (hP : G.P = Try.prog) {bs : List UInt8} (hl : bs.length ≤ 1000000000) {p : Nat} {bad : Bool} {b : Nat} {S : LS} (hb : S.box b = some (rdL bs p bad)) (hs : p ≤ bs.length) (n : Nat) (hn : n ≤ 4) :
    ∃ x p' bad', numS bs n 0 0 (p, bad) = (x, (p', bad')) ∧ p' ≤ bs.length ∧ LCalls G 26 [ptr b, .one (iv (n : Nat))] (fun r S' => S.only (· = b) S' ∧ S'.box b = some (rdL bs p' bad') ∧ r = (.one (iv (x : Nat)))) S :=
  ⟨_, _, _, rfl, numS_at n 0 0 (p, bad) hs, number_L hP bs hl n hn (p, bad) b S hb hs⟩

theorem writesS_at {bs : List UInt8} : ∀ (n : Nat) (s : Nat × Bool), s.1 ≤ bs.length → (writesS bs n s).2.1 ≤ bs.length := by
  intro n
  induction n with
  | zero => intro s h; exact h
  | succ n ih =>
    intro s h
    simp only [writesS]
    apply ih
    split
    · exact markS_at (textS_at h)
    · exact textS_at (markS_at (textS_at h))
theorem opS_at {bs : List UInt8} {s : Nat × Bool} (h : s.1 ≤ bs.length) : (opS bs s).2.1 ≤ bs.length := by
  have h := byteS_at (bs := bs) h
  simp only [opS]
  split
  · exact textS_at h
  split
  · exact textS_at (textS_at h)
  split
  · dsimp only
    split
    · exact textS_at (markS_at (textS_at (textS_at h)))
    · exact markS_at (textS_at (textS_at h))
  split
  · exact markS_at (textS_at h)
  split
  · exact writesS_at _ _ (byteS_at h)
  · exact h
theorem op_C {G : Ctx} (hP : G.P = Try.prog) {bs : List UInt8} (hl : bs.length ≤ 1000000000) {p : Nat} {bad : Bool} {b : Nat} {S : LS} (hb : S.box b = some (rdL bs p bad)) (hs : p ≤ bs.length) :
    ∃ x p' bad', opS bs (p, bad) = (x, (p', bad')) ∧ p' ≤ bs.length ∧ LCalls G 25 [ptr b] (fun r S' => S.only (· = b) S' ∧ S'.box b = some (rdL bs p' bad') ∧ r = .agg (opL x)) S :=
  ⟨_, _, _, rfl, opS_at (s := (p, bad)) hs, op_L hP bs hl p bad b S hb hs⟩

def enS (bs : List UInt8) (s : Nat × Bool) : En × (Nat × Bool) :=
  let k := byteS bs s
  if k.1 = 1 then
    let t := opS bs k.2
    (⟨k.1, 0, 0, t.1⟩, t.2)
  else if k.1 = 2 then
    let t := numS bs 2 0 0 k.2
    (⟨k.1, t.1, 0, noOp⟩, t.2)
  else if k.1 = 3 then
    let t := byteS bs k.2
    let u := byteS bs t.2
    (⟨k.1, t.1, u.1, noOp⟩, u.2)
  else if k.1 = 4 ∨ k.1 = 5 then
    let t := byteS bs k.2
    (⟨k.1, t.1, 0, noOp⟩, t.2)
  else if k.1 = 6 then
    let t := numS bs 4 0 0 k.2
    (⟨k.1, t.1, 0, noOp⟩, t.2)
  else (⟨k.1, 0, 0, noOp⟩, (k.2.1, true))

def enW (o : Own) (e : En) : List LV := [uv e.kind, iv e.a, iv e.b, uv e.op.kind, sv e.op.key, sv e.op.val, sv e.op.old, bv e.op.had, bv e.op.after, .sl o (e.op.writes.map wrL)]

set_option maxHeartbeats 8000000 in
theorem entry_L {G : Ctx} (hP : G.P = Try.prog) (bs : List UInt8) (hl : bs.length ≤ 1000000000) (p : Nat) (bad : Bool) (b : Nat) (S : LS) (hb : S.box b = some (rdL bs p bad)) (hp : p ≤ bs.length) :
    LCalls G 18 [ptr b] (fun r S' => S.only (· = b) S' ∧ S'.box b = some (rdL bs (enS bs (p, bad)).2.1 (enS bs (p, bad)).2.2) ∧ r = .agg (enL (enS bs (p, bad)).1)) S := .sound fun hs => by
  have hD : TabOK G.P D := by rw [hP]; exact hD0
  refine LCalls.enter (fn := Try.f18) (by rw [hP]; exact Try.func18) rfl rfl ?_
  repeat (first | refine LOps.nil ?_ | refine andThen_normal ?_ | refine andThen_exit ?_ | refine andThen_ret ?_ | refine inBlock_normal ?_ | refine inBlock_ret ?_ | refine inBlock_here ?_ | refine inBlock_out rfl ?_ | refine LWp.seq ?_ | refine LWp.region ?_ | refine LWp.block ?_ | refine LWp.exit ?_ | refine LWp.ret ?_ | refine LWp.skip ?_ | refine LOps.valA ?_ | refine LOps.outA ?_ | refine LOps.whenA ?_ | refine LOps.pickA ?_ | refine LOps.storeA ?_)
  refine LOps.do (LDo.alloc hD rfl rfl rfl) rfl rfl rfl ?_
  rintro _ _ ⟨b2, hb2, rfl, rfl⟩
  have nb2 : b ≠ b2 := fresh_ne hb2 hb
  have s2 : S.box b2 = none := hb2.box
  refine LOps.gen (fun S1 => S.le S1 ∧ S1.box b = some (rdL bs p bad) ∧ S1.box b2 = some (lzero ti35)) ⟨.newBox (.refl _) hb2 _, (box_new_ne _ _ nb2).trans hb, box_new _ _ _⟩ ?_
  clear hb2
  rintro S1 ⟨le1, kb, k2⟩
  obtain ⟨c, p1, d1, e1, hc256, hp1, hc⟩ := byte_C hP hl kb hp
  repeat (first | refine LOps.nil ?_ | refine andThen_normal ?_ | refine andThen_exit ?_ | refine andThen_ret ?_ | refine inBlock_normal ?_ | refine inBlock_ret ?_ | refine inBlock_here ?_ | refine inBlock_out rfl ?_ | refine LWp.seq ?_ | refine LWp.region ?_ | refine LWp.block ?_ | refine LWp.exit ?_ | refine LWp.ret ?_ | refine LWp.skip ?_ | refine LOps.valA ?_ | refine LOps.outA ?_ | refine LOps.whenA ?_ | refine LOps.pickA ?_ | refine LOps.storeA ?_)
  refine LOps.do (LDo.callF hc (by rw [hP]; exact Try.func24)) rfl rfl rfl ?_
  rintro _ S2 ⟨o2, kb, rfl⟩
  have k2 := o2.box _ _ (fun e => nb2 e.symm) k2
  have o2 := (le1.only _).trans o2
  repeat (first | refine LOps.val (r := .one (uv (c : Int))) (LVal.to (LVal.convInt hD rfl rfl rfl rfl rfl) (by rw [wrap_u8 hc256])) rfl rfl rfl ?_ | refine LOps.nil ?_ | refine andThen_normal ?_ | refine andThen_exit ?_ | refine andThen_ret ?_ | refine inBlock_normal ?_ | refine inBlock_ret ?_ | refine inBlock_here ?_ | refine inBlock_out rfl ?_ | refine LWp.seq ?_ | refine LWp.region ?_ | refine LWp.block ?_ | refine LWp.exit ?_ | refine LWp.ret ?_ | refine LWp.skip ?_ | refine LOps.valA ?_ | refine LOps.outA ?_ | refine LOps.whenA ?_ | refine LOps.pickA ?_ | refine LOps.storeA ?_)
  refine LOps.do (LDo.alloc hD rfl rfl rfl) rfl rfl rfl ?_
  rintro _ _ ⟨b3, hb3, rfl, rfl⟩
  have nb3 : b ≠ b3 := fresh_ne hb3 kb
  have n23 : b2 ≠ b3 := fresh_ne hb3 k2
  have s3 : S.box b3 = none := by
    cases hq : S.box b3 with
    | none => rfl
    | some x =>
      have := (o2.box b3 x (fun e => nb3 e.symm) hq)
      rw [hb3.box] at this; cases this
  repeat (first | refine LOps.gen (fun S3 => EnJ S S3 b b2 b3 bs p1 d1 (enW .nil ⟨c, 0, 0, noOp⟩)) ⟨(o2.trans (.newBox hb3 _ _)).setNew s3 _, (box_set_ne _ _ nb3).trans ((box_new_ne _ _ nb3).trans kb), (box_set_ne _ _ n23).trans ((box_new_ne _ _ n23).trans k2), box_set _ _ _, hp1, fun e => nb2 e.symm, fun e => nb3 e.symm, n23, s3⟩ ?_ | refine LOps.nil ?_ | refine andThen_normal ?_ | refine andThen_exit ?_ | refine andThen_ret ?_ | refine inBlock_normal ?_ | refine inBlock_ret ?_ | refine inBlock_here ?_ | refine inBlock_out rfl ?_ | refine LWp.seq ?_ | refine LWp.region ?_ | refine LWp.block ?_ | refine LWp.exit ?_ | refine LWp.ret ?_ | refine LWp.skip ?_ | refine LOps.valA ?_ | refine LOps.outA ?_ | refine LOps.whenA ?_ | refine LOps.pickA ?_ | refine LOps.storeA ?_)
  clear kb k2 o2 hb3 le1 hc
  intro S3 hJ
  repeat (first | refine LWp.seq (LWp.cut 2 (fun T' S' => ∃ (x : En) (o : Own) (p' : Nat) (d' : Bool) (T'' : Nat → TV), enS bs (p, bad) = (x, (p', d')) ∧ EnJ S S' b b2 b3 bs p' d' (enW o x) ∧ T' = over T'' [(2, ptr b2), (3, ptr b3)]) rfl ?_ ?_) | refine LOps.nil ?_ | refine andThen_normal ?_ | refine andThen_exit ?_ | refine andThen_ret ?_ | refine inBlock_normal ?_ | refine inBlock_ret ?_ | refine inBlock_here ?_ | refine inBlock_out rfl ?_ | refine LWp.seq ?_ | refine LWp.region ?_ | refine LWp.block ?_ | refine LWp.exit ?_ | refine LWp.ret ?_ | refine LWp.skip ?_ | refine LOps.valA ?_ | refine LOps.outA ?_ | refine LOps.whenA ?_ | refine LOps.pickA ?_ | refine LOps.storeA ?_)
  · have k3 := hJ.k3
    repeat (first | refine LOps.nil ?_ | refine andThen_normal ?_ | refine andThen_exit ?_ | refine andThen_ret ?_ | refine inBlock_normal ?_ | refine inBlock_ret ?_ | refine inBlock_here ?_ | refine inBlock_out rfl ?_ | refine LWp.seq ?_ | refine LWp.region ?_ | refine LWp.block ?_ | refine LWp.exit ?_ | refine LWp.ret ?_ | refine LWp.skip ?_ | refine LOps.valA ?_ | refine LOps.outA ?_ | refine LOps.whenA ?_ | refine LOps.pickA ?_ | refine LOps.storeA ?_)
    refine LWp.cond rfl (fun h => ?_) (fun h => ?_)
    · have h1 : c = 1 := by simp at h; omega
      obtain ⟨t, p2, d2, e2, hp, hc⟩ := op_C hP hl hJ.kb hJ.hp
      repeat (first | refine LOps.nil ?_ | refine andThen_normal ?_ | refine andThen_exit ?_ | refine andThen_ret ?_ | refine inBlock_normal ?_ | refine inBlock_ret ?_ | refine inBlock_here ?_ | refine inBlock_out rfl ?_ | refine LWp.seq ?_ | refine LWp.region ?_ | refine LWp.block ?_ | refine LWp.exit ?_ | refine LWp.ret ?_ | refine LWp.skip ?_ | refine LOps.valA ?_ | refine LOps.outA ?_ | refine LOps.whenA ?_ | refine LOps.pickA ?_ | refine LOps.storeA ?_)
      refine LOps.do (LDo.callF hc (by rw [hP]; exact Try.func25)) rfl rfl rfl ?_
      rintro _ S5 ⟨o4, kb, rfl⟩
      have hJ := hJ.step o4 kb hp
      have k3 := hJ.k3
      repeat (first | refine LOps.nil ?_ | refine andThen_normal ?_ | refine andThen_exit ?_ | refine andThen_ret ?_ | refine inBlock_normal ?_ | refine inBlock_ret ?_ | refine inBlock_here ?_ | refine inBlock_out rfl ?_ | refine LWp.seq ?_ | refine LWp.region ?_ | refine LWp.block ?_ | refine LWp.exit ?_ | refine LWp.ret ?_ | refine LWp.skip ?_ | refine LOps.valA ?_ | refine LOps.outA ?_ | refine LOps.whenA ?_ | refine LOps.pickA ?_ | refine LOps.storeA ?_)
      exact ⟨⟨c, 0, 0, t⟩, .sh, p2, d2, _, by simp only [enS, e1, if_pos h1, e2], hJ.set _, holds.over ⟨rfl, rfl, trivial⟩⟩
    have h1 : ¬ c = 1 := by simp at h; omega
    repeat (first | refine LOps.nil ?_ | refine andThen_normal ?_ | refine andThen_exit ?_ | refine andThen_ret ?_ | refine inBlock_normal ?_ | refine inBlock_ret ?_ | refine inBlock_here ?_ | refine inBlock_out rfl ?_ | refine LWp.seq ?_ | refine LWp.region ?_ | refine LWp.block ?_ | refine LWp.exit ?_ | refine LWp.ret ?_ | refine LWp.skip ?_ | refine LOps.valA ?_ | refine LOps.outA ?_ | refine LOps.whenA ?_ | refine LOps.pickA ?_ | refine LOps.storeA ?_)
    refine LWp.cond rfl (fun h => ?_) (fun h => ?_)
    · have h2 : c = 2 := by simp at h; omega
      obtain ⟨t, p2, d2, e2, hp, hc⟩ := number_C hP hl hJ.kb hJ.hp 2 (by decide)
      repeat (first | refine LOps.nil ?_ | refine andThen_normal ?_ | refine andThen_exit ?_ | refine andThen_ret ?_ | refine inBlock_normal ?_ | refine inBlock_ret ?_ | refine inBlock_here ?_ | refine inBlock_out rfl ?_ | refine LWp.seq ?_ | refine LWp.region ?_ | refine LWp.block ?_ | refine LWp.exit ?_ | refine LWp.ret ?_ | refine LWp.skip ?_ | refine LOps.valA ?_ | refine LOps.outA ?_ | refine LOps.whenA ?_ | refine LOps.pickA ?_ | refine LOps.storeA ?_)
      refine LOps.do (LDo.callF hc (by rw [hP]; exact Try.func26)) rfl rfl rfl ?_
      rintro _ S5 ⟨o4, kb, rfl⟩
      have hJ := hJ.step o4 kb hp
      have k3 := hJ.k3
      repeat (first | refine LOps.nil ?_ | refine andThen_normal ?_ | refine andThen_exit ?_ | refine andThen_ret ?_ | refine inBlock_normal ?_ | refine inBlock_ret ?_ | refine inBlock_here ?_ | refine inBlock_out rfl ?_ | refine LWp.seq ?_ | refine LWp.region ?_ | refine LWp.block ?_ | refine LWp.exit ?_ | refine LWp.ret ?_ | refine LWp.skip ?_ | refine LOps.valA ?_ | refine LOps.outA ?_ | refine LOps.whenA ?_ | refine LOps.pickA ?_ | refine LOps.storeA ?_)
      exact ⟨⟨c, t, 0, noOp⟩, .nil, p2, d2, _, by simp only [enS, e1, if_neg h1, if_pos h2, e2], hJ.set _, holds.over ⟨rfl, rfl, trivial⟩⟩
    have h2 : ¬ c = 2 := by simp at h; omega
    repeat (first | refine LOps.nil ?_ | refine andThen_normal ?_ | refine andThen_exit ?_ | refine andThen_ret ?_ | refine inBlock_normal ?_ | refine inBlock_ret ?_ | refine inBlock_here ?_ | refine inBlock_out rfl ?_ | refine LWp.seq ?_ | refine LWp.region ?_ | refine LWp.block ?_ | refine LWp.exit ?_ | refine LWp.ret ?_ | refine LWp.skip ?_ | refine LOps.valA ?_ | refine LOps.outA ?_ | refine LOps.whenA ?_ | refine LOps.pickA ?_ | refine LOps.storeA ?_)
    refine LWp.cond rfl (fun h => ?_) (fun h => ?_)
    · have h3 : c = 3 := by simp at h; omega
      obtain ⟨t, p2, d2, e2, _, hp, hc⟩ := byte_C hP hl hJ.kb hJ.hp
      repeat (first | refine LOps.nil ?_ | refine andThen_normal ?_ | refine andThen_exit ?_ | refine andThen_ret ?_ | refine inBlock_normal ?_ | refine inBlock_ret ?_ | refine inBlock_here ?_ | refine inBlock_out rfl ?_ | refine LWp.seq ?_ | refine LWp.region ?_ | refine LWp.block ?_ | refine LWp.exit ?_ | refine LWp.ret ?_ | refine LWp.skip ?_ | refine LOps.valA ?_ | refine LOps.outA ?_ | refine LOps.whenA ?_ | refine LOps.pickA ?_ | refine LOps.storeA ?_)
      refine LOps.do (LDo.callF hc (by rw [hP]; exact Try.func24)) rfl rfl rfl ?_
      rintro _ S5 ⟨o4, kb, rfl⟩
      have hJ := hJ.step o4 kb hp
      have k3 := hJ.k3
      obtain ⟨u, p3, d3, e3, _, hp, hc⟩ := byte_C hP hl hJ.kb hJ.hp
      repeat (first | refine LOps.nil ?_ | refine andThen_normal ?_ | refine andThen_exit ?_ | refine andThen_ret ?_ | refine inBlock_normal ?_ | refine inBlock_ret ?_ | refine inBlock_here ?_ | refine inBlock_out rfl ?_ | refine LWp.seq ?_ | refine LWp.region ?_ | refine LWp.block ?_ | refine LWp.exit ?_ | refine LWp.ret ?_ | refine LWp.skip ?_ | refine LOps.valA ?_ | refine LOps.outA ?_ | refine LOps.whenA ?_ | refine LOps.pickA ?_ | refine LOps.storeA ?_)
      refine LOps.do (LDo.callF hc (by rw [hP]; exact Try.func24)) rfl rfl rfl ?_
      rintro _ S6 ⟨o4, kb, rfl⟩
      have hJ := hJ.step o4 kb hp
      have k3 := hJ.k3
      repeat (first | refine LOps.nil ?_ | refine andThen_normal ?_ | refine andThen_exit ?_ | refine andThen_ret ?_ | refine inBlock_normal ?_ | refine inBlock_ret ?_ | refine inBlock_here ?_ | refine inBlock_out rfl ?_ | refine LWp.seq ?_ | refine LWp.region ?_ | refine LWp.block ?_ | refine LWp.exit ?_ | refine LWp.ret ?_ | refine LWp.skip ?_ | refine LOps.valA ?_ | refine LOps.outA ?_ | refine LOps.whenA ?_ | refine LOps.pickA ?_ | refine LOps.storeA ?_)
      exact ⟨⟨c, t, u, noOp⟩, .nil, p3, d3, _, by simp only [enS, e1, if_neg h1, if_neg h2, if_pos h3, e2, e3], (hJ.set _).set _, holds.over ⟨rfl, rfl, trivial⟩⟩
    have h3 : ¬ c = 3 := by simp at h; omega
    repeat (first | refine LWp.seq (LWp.cut 10 (fun T' S' => S' = S3 ∧ ∃ T'', T' = over T'' [(0, ptr b), (2, ptr b2), (3, ptr b3), (9, .one (uv (c : Int))), (31, .one (bv (decide (c = 4 ∨ c = 5))))]) rfl ?_ ?_) | refine LOps.nil ?_ | refine andThen_normal ?_ | refine andThen_exit ?_ | refine andThen_ret ?_ | refine inBlock_normal ?_ | refine inBlock_ret ?_ | refine inBlock_here ?_ | refine inBlock_out rfl ?_ | refine LWp.seq ?_ | refine LWp.region ?_ | refine LWp.block ?_ | refine LWp.exit ?_ | refine LWp.ret ?_ | refine LWp.skip ?_ | refine LOps.valA ?_ | refine LOps.outA ?_ | refine LOps.whenA ?_ | refine LOps.pickA ?_ | refine LOps.storeA ?_)
    · repeat (first | refine LOps.nil ?_ | refine andThen_normal ?_ | refine andThen_exit ?_ | refine andThen_ret ?_ | refine inBlock_normal ?_ | refine inBlock_ret ?_ | refine inBlock_here ?_ | refine inBlock_out rfl ?_ | refine LWp.seq ?_ | refine LWp.region ?_ | refine LWp.block ?_ | refine LWp.exit ?_ | refine LWp.ret ?_ | refine LWp.skip ?_ | refine LOps.valA ?_ | refine LOps.outA ?_ | refine LOps.whenA ?_ | refine LOps.pickA ?_ | refine LOps.storeA ?_)
      refine LWp.cond rfl (fun h => ?_) (fun h => ?_)
      · have h1 : c = 4 := by simp at h; omega
        repeat (first | refine LOps.nil ?_ | refine andThen_normal ?_ | refine andThen_exit ?_ | refine andThen_ret ?_ | refine inBlock_normal ?_ | refine inBlock_ret ?_ | refine inBlock_here ?_ | refine inBlock_out rfl ?_ | refine LWp.seq ?_ | refine LWp.region ?_ | refine LWp.block ?_ | refine LWp.exit ?_ | refine LWp.ret ?_ | refine LWp.skip ?_ | refine LOps.valA ?_ | refine LOps.outA ?_ | refine LOps.whenA ?_ | refine LOps.pickA ?_ | refine LOps.storeA ?_)
        exact ⟨rfl, _, holds.over ⟨rfl, rfl, rfl, rfl, by subst h1; rfl, trivial⟩⟩
      · have h1 : ¬ c = 4 := by simp at h; omega
        repeat (first | refine LOps.nil ?_ | refine andThen_normal ?_ | refine andThen_exit ?_ | refine andThen_ret ?_ | refine inBlock_normal ?_ | refine inBlock_ret ?_ | refine inBlock_here ?_ | refine inBlock_out rfl ?_ | refine LWp.seq ?_ | refine LWp.region ?_ | refine LWp.block ?_ | refine LWp.exit ?_ | refine LWp.ret ?_ | refine LWp.skip ?_ | refine LOps.valA ?_ | refine LOps.outA ?_ | refine LOps.whenA ?_ | refine LOps.pickA ?_ | refine LOps.storeA ?_)
        refine ⟨rfl, _, holds.over ⟨rfl, rfl, rfl, rfl, ?_, trivial⟩⟩
        have : decide (c = 4 ∨ c = 5) = ((c : Int) == 5) := by
          by_cases h3 : c = 5
          · subst h3; rfl
          · have : ((c : Int) == 5) = false := by simp; omega
            rw [this]; simp [h1, h3]
        rw [this]; rfl
    rintro T' S4 ⟨rfl, T'', rfl⟩
    repeat (first | refine LOps.nil ?_ | refine andThen_normal ?_ | refine andThen_exit ?_ | refine andThen_ret ?_ | refine inBlock_normal ?_ | refine inBlock_ret ?_ | refine inBlock_here ?_ | refine inBlock_out rfl ?_ | refine LWp.seq ?_ | refine LWp.region ?_ | refine LWp.block ?_ | refine LWp.exit ?_ | refine LWp.ret ?_ | refine LWp.skip ?_ | refine LOps.valA ?_ | refine LOps.outA ?_ | refine LOps.whenA ?_ | refine LOps.pickA ?_ | refine LOps.storeA ?_)
    refine LWp.cond rfl (fun h => ?_) (fun h => ?_)
    · have h4 : c = 4 ∨ c = 5 := by simpa using h
      obtain ⟨t, p2, d2, e2, _, hp, hc⟩ := byte_C hP hl hJ.kb hJ.hp
      repeat (first | refine LOps.nil ?_ | refine andThen_normal ?_ | refine andThen_exit ?_ | refine andThen_ret ?_ | refine inBlock_normal ?_ | refine inBlock_ret ?_ | refine inBlock_here ?_ | refine inBlock_out rfl ?_ | refine LWp.seq ?_ | refine LWp.region ?_ | refine LWp.block ?_ | refine LWp.exit ?_ | refine LWp.ret ?_ | refine LWp.skip ?_ | refine LOps.valA ?_ | refine LOps.outA ?_ | refine LOps.whenA ?_ | refine LOps.pickA ?_ | refine LOps.storeA ?_)
      refine LOps.do (LDo.callF hc (by rw [hP]; exact Try.func24)) rfl rfl rfl ?_
      rintro _ S5 ⟨o4, kb, rfl⟩
      have hJ := hJ.step o4 kb hp
      have k3 := hJ.k3
      repeat (first | refine LOps.nil ?_ | refine andThen_normal ?_ | refine andThen_exit ?_ | refine andThen_ret ?_ | refine inBlock_normal ?_ | refine inBlock_ret ?_ | refine inBlock_here ?_ | refine inBlock_out rfl ?_ | refine LWp.seq ?_ | refine LWp.region ?_ | refine LWp.block ?_ | refine LWp.exit ?_ | refine LWp.ret ?_ | refine LWp.skip ?_ | refine LOps.valA ?_ | refine LOps.outA ?_ | refine LOps.whenA ?_ | refine LOps.pickA ?_ | refine LOps.storeA ?_)
      exact ⟨⟨c, t, 0, noOp⟩, .nil, p2, d2, _, by simp only [enS, e1, if_neg h1, if_neg h2, if_neg h3, if_pos h4, e2], hJ.set _, holds.over ⟨rfl, rfl, trivial⟩⟩
    have h4 : ¬ (c = 4 ∨ c = 5) := by simpa using h
    repeat (first | refine LOps.nil ?_ | refine andThen_normal ?_ | refine andThen_exit ?_ | refine andThen_ret ?_ | refine inBlock_normal ?_ | refine inBlock_ret ?_ | refine inBlock_here ?_ | refine inBlock_out rfl ?_ | refine LWp.seq ?_ | refine LWp.region ?_ | refine LWp.block ?_ | refine LWp.exit ?_ | refine LWp.ret ?_ | refine LWp.skip ?_ | refine LOps.valA ?_ | refine LOps.outA ?_ | refine LOps.whenA ?_ | refine LOps.pickA ?_ | refine LOps.storeA ?_)
    refine LWp.cond rfl (fun h => ?_) (fun h => ?_)
    · have h6 : c = 6 := by simp at h; omega
      obtain ⟨t, p2, d2, e2, hp, hc⟩ := number_C hP hl hJ.kb hJ.hp 4 (by decide)
      repeat (first | refine LOps.nil ?_ | refine andThen_normal ?_ | refine andThen_exit ?_ | refine andThen_ret ?_ | refine inBlock_normal ?_ | refine inBlock_ret ?_ | refine inBlock_here ?_ | refine inBlock_out rfl ?_ | refine LWp.seq ?_ | refine LWp.region ?_ | refine LWp.block ?_ | refine LWp.exit ?_ | refine LWp.ret ?_ | refine LWp.skip ?_ | refine LOps.valA ?_ | refine LOps.outA ?_ | refine LOps.whenA ?_ | refine LOps.pickA ?_ | refine LOps.storeA ?_)
      refine LOps.do (LDo.callF hc (by rw [hP]; exact Try.func26)) rfl rfl rfl ?_
      rintro _ S5 ⟨o4, kb, rfl⟩
      have hJ := hJ.step o4 kb hp
      have k3 := hJ.k3
      repeat (first | refine LOps.nil ?_ | refine andThen_normal ?_ | refine andThen_exit ?_ | refine andThen_ret ?_ | refine inBlock_normal ?_ | refine inBlock_ret ?_ | refine inBlock_here ?_ | refine inBlock_out rfl ?_ | refine LWp.seq ?_ | refine LWp.region ?_ | refine LWp.block ?_ | refine LWp.exit ?_ | refine LWp.ret ?_ | refine LWp.skip ?_ | refine LOps.valA ?_ | refine LOps.outA ?_ | refine LOps.whenA ?_ | refine LOps.pickA ?_ | refine LOps.storeA ?_)
      exact ⟨⟨c, t, 0, noOp⟩, .nil, p2, d2, _, by simp only [enS, e1, if_neg h1, if_neg h2, if_neg h3, if_neg h4, if_pos h6, e2], hJ.set _, holds.over ⟨rfl, rfl, trivial⟩⟩
    have h6 : ¬ c = 6 := by simp at h; omega
    have kb := hJ.kb
    repeat (first | refine LOps.nil ?_ | refine andThen_normal ?_ | refine andThen_exit ?_ | refine andThen_ret ?_ | refine inBlock_normal ?_ | refine inBlock_ret ?_ | refine inBlock_here ?_ | refine inBlock_out rfl ?_ | refine LWp.seq ?_ | refine LWp.region ?_ | refine LWp.block ?_ | refine LWp.exit ?_ | refine LWp.ret ?_ | refine LWp.skip ?_ | refine LOps.valA ?_ | refine LOps.outA ?_ | refine LOps.whenA ?_ | refine LOps.pickA ?_ | refine LOps.storeA ?_)
    exact ⟨⟨c, 0, 0, noOp⟩, .nil, p1, true, _, by simp only [enS, e1, if_neg h1, if_neg h2, if_neg h3, if_neg h4, if_neg h6], hJ.bad, holds.over ⟨rfl, rfl, trivial⟩⟩
  rintro T' S4 ⟨x, o, p', d', T'', he, hJ, rfl⟩
  have k2 := hJ.k2
  have k3 := hJ.k3
  repeat (first | refine LOps.nil ?_ | refine andThen_normal ?_ | refine andThen_exit ?_ | refine andThen_ret ?_ | refine inBlock_normal ?_ | refine inBlock_ret ?_ | refine inBlock_here ?_ | refine inBlock_out rfl ?_ | refine LWp.seq ?_ | refine LWp.region ?_ | refine LWp.block ?_ | refine LWp.exit ?_ | refine LWp.ret ?_ | refine LWp.skip ?_ | refine LOps.valA ?_ | refine LOps.outA ?_ | refine LOps.whenA ?_ | refine LOps.pickA ?_ | refine LOps.storeA ?_)
  refine ⟨_, LRes.sh (LRes.cell rfl (.cell rfl (box_set _ _ _) (hP ▸ tok35) rfl)), hJ.only.setNew s2 _, ?_, ?_⟩
  · rw [he]; exact (box_set_ne _ _ nb2).trans hJ.kb
  · rw [he]; rfl
end Go.Proofs.Ytbifiagpmoakdaa.LF
