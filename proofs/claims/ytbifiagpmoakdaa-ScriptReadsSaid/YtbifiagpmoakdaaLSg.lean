/- The document's mark, batch, op. -/
import Derived.Test.YtbifiagpmoakdaaLSf
set_option linter.unusedVariables false
set_option linter.unusedSimpArgs false
namespace Go.Proofs.Ytbifiagpmoakdaa.LF
open Go.RowKit

theorem byteS_end {bs : List UInt8} {p : Nat} (h : bs.length ≤ p) : byteS bs (p, false) = (0, (p, true)) := by
  unfold byteS; rw [if_pos (by simp [h])]
theorem byteS_here {bs : List UInt8} {p : Nat} (h : p < bs.length) : byteS bs (p, false) = (bs[p].toNat, (p + 1, false)) := by
  unfold byteS
  rw [if_neg (by simp; omega)]
  simp [h]
theorem getD_here {bs : List UInt8} {p : Nat} (h : p < bs.length) : bs.getD p default = bs[p] := by simp [h]

set_option maxHeartbeats 4000000 in
theorem refMark_F {G : Ctx} (hP : G.P = Try.prog) (bs : List UInt8) (hl : bs.length ≤ 1000000000) (s : Nat × Bool) (hs : s.1 ≤ bs.length) :
    LFun G 37 [.one (.sl .sh (bL bs)), .one (iv (enc s))] (.tup [.one (bv (markS bs s).1), .one (iv (enc (markS bs s).2))]) := LFun.of fun S => by
  have hD : TabOK G.P D := by rw [hP]; exact hD0
  have hml : (bL bs).length = bs.length := List.length_map ..
  obtain ⟨p, bad⟩ := s
  have hs : p ≤ bs.length := hs
  cases bad with
  | true =>
    have hz : markS bs (p, true) = (false, (p, true)) := by simp [markS, byteS]
    rw [hz, enc_bad]
    refine LCalls.enter (fn := Try.f37) (by rw [hP]; exact Try.func37) rfl rfl ?_
    repeat (first | refine LOps.nil ?_ | refine andThen_normal ?_ | refine andThen_exit ?_ | refine andThen_ret ?_ | refine inBlock_normal ?_ | refine inBlock_ret ?_ | refine inBlock_here ?_ | refine inBlock_out rfl ?_ | refine LWp.seq ?_ | refine LWp.region ?_ | refine LWp.block ?_ | refine LWp.exit ?_ | refine LWp.ret ?_ | refine LWp.skip ?_ | refine LOps.valA ?_ | refine LOps.outA ?_ | refine LOps.whenA ?_ | refine LOps.pickA ?_ | refine LOps.storeA ?_)
    refine LWp.condT rfl ?_
    repeat (first | refine LOps.nil ?_ | refine andThen_normal ?_ | refine andThen_exit ?_ | refine andThen_ret ?_ | refine inBlock_normal ?_ | refine inBlock_ret ?_ | refine inBlock_here ?_ | refine inBlock_out rfl ?_ | refine LWp.seq ?_ | refine LWp.region ?_ | refine LWp.block ?_ | refine LWp.exit ?_ | refine LWp.ret ?_ | refine LWp.skip ?_ | refine LOps.valA ?_ | refine LOps.outA ?_ | refine LOps.whenA ?_ | refine LOps.pickA ?_ | refine LOps.storeA ?_)
    exact ⟨_, LRes.two rfl, rfl, .refl _⟩
  | false =>
    rw [enc_ok]
    refine LCalls.enter (fn := Try.f37) (by rw [hP]; exact Try.func37) rfl rfl ?_
    have hc := (bs.getD p default).toNat_lt
    repeat (first | refine LOps.nil ?_ | refine andThen_normal ?_ | refine andThen_exit ?_ | refine andThen_ret ?_ | refine inBlock_normal ?_ | refine inBlock_ret ?_ | refine inBlock_here ?_ | refine inBlock_out rfl ?_ | refine LWp.seq ?_ | refine LWp.region ?_ | refine LWp.block ?_ | refine LWp.exit ?_ | refine LWp.ret ?_ | refine LWp.skip ?_ | refine LOps.valA ?_ | refine LOps.outA ?_ | refine LOps.whenA ?_ | refine LOps.pickA ?_ | refine LOps.storeA ?_)
    refine LWp.cond rfl (fun h => ?_) (fun h => ?_)
    · have h : ((decide ((p : Int) < 0) || decide ((p : Int) ≥ ((bL bs).length : Int))) || decide (((bs.getD p default).toNat : Int) > 1)) = true := h
      rw [hml] at h
      have hz : (markS bs (p, false)).1 = false ∧ (markS bs (p, false)).2.2 = true := by
        by_cases hlt : p < bs.length
        · rw [getD_here hlt] at h
          simp at h
          simp only [markS, byteS_here hlt]
          constructor
          · simp; omega
          · simp; omega
        · simp [markS, byteS_end (Nat.not_lt.1 hlt)]
      repeat (first | refine LOps.nil ?_ | refine andThen_normal ?_ | refine andThen_exit ?_ | refine andThen_ret ?_ | refine inBlock_normal ?_ | refine inBlock_ret ?_ | refine inBlock_here ?_ | refine inBlock_out rfl ?_ | refine LWp.seq ?_ | refine LWp.region ?_ | refine LWp.block ?_ | refine LWp.exit ?_ | refine LWp.ret ?_ | refine LWp.skip ?_ | refine LOps.valA ?_ | refine LOps.outA ?_ | refine LOps.whenA ?_ | refine LOps.pickA ?_ | refine LOps.storeA ?_)
      exact ⟨_, LRes.two rfl, by rw [hz.1, enc, hz.2]; rfl, .refl _⟩
    · have h : ((decide ((p : Int) < 0) || decide ((p : Int) ≥ ((bL bs).length : Int))) || decide (((bs.getD p default).toNat : Int) > 1)) = false := h
      rw [hml] at h
      simp at h
      obtain ⟨hlt, hle⟩ := h
      have hle : bs[p].toNat ≤ 1 := by simp [hlt] at hle; omega
      rw [getD_here hlt] at hc
      have hz : markS bs (p, false) = (bs[p].toNat == 1, (p + 1, false)) := by
        simp only [markS, byteS_here hlt]
        have : decide (1 < bs[p].toNat) = false := by simp; omega
        rw [this]; rfl
      repeat (first | refine LOps.nil ?_ | refine andThen_normal ?_ | refine andThen_exit ?_ | refine andThen_ret ?_ | refine inBlock_normal ?_ | refine inBlock_ret ?_ | refine inBlock_here ?_ | refine inBlock_out rfl ?_ | refine LWp.seq ?_ | refine LWp.region ?_ | refine LWp.block ?_ | refine LWp.exit ?_ | refine LWp.ret ?_ | refine LWp.skip ?_ | refine LOps.valA ?_ | refine LOps.outA ?_ | refine LOps.whenA ?_ | refine LOps.pickA ?_ | refine LOps.storeA ?_)
      refine ⟨_, LRes.two rfl, ?_, .refl _⟩
      rw [hz]
      have e : ((bs[p].toNat : Int) == 1) = (bs[p].toNat == 1) := by
        by_cases h : bs[p].toNat = 1
        · rw [h]; rfl
        · have : ((bs[p].toNat : Int) == 1) = false := by simp; omega
          rw [this]; simp [h]
      rw [← e]; rfl

theorem textS_bad {bs : List UInt8} {p : Nat} : textS bs (p, true) = (noBytes, (p, true)) := by simp [textS, byteS]
theorem markS_bad {bs : List UInt8} {p : Nat} : markS bs (p, true) = (false, (p, true)) := by simp [markS, byteS]
theorem markS_true {bs : List UInt8} {s : Nat × Bool} (h : (markS bs s).1 = true) : (markS bs s).2.2 = false := by
  obtain ⟨p, d⟩ := s
  cases d with
  | true => rw [markS_bad] at h; cases h
  | false =>
    by_cases hlt : p < bs.length
    · simp only [markS, byteS_here hlt] at h ⊢
      simp at h ⊢; omega
    · simp [markS, byteS_end (Nat.not_lt.1 hlt)] at h
theorem enc_nonneg {s : Nat × Bool} : decide (enc s ≥ 0) = !s.2 := by
  obtain ⟨p, d⟩ := s
  cases d
  · simp [enc]
  · simp [enc]

/-- A batch's writes, up to the first that cannot be read. -/
def writesR (bs : List UInt8) : Nat → Nat × Bool → List Wr × (Nat × Bool)
  | 0, s => ([], s)
  | n + 1, s => if s.2 then ([], s) else
    let k := textS bs s
    let g := markS bs k.2
    let v := if g.1 || g.2.2 then (noBytes, g.2) else textS bs g.2
    let r := writesR bs n v.2
    (⟨k.1, v.1, g.1⟩ :: r.1, r.2)
theorem writesS_stay {bs : List UInt8} : ∀ (n : Nat) (p : Nat), (writesS bs n (p, true)).2 = (p, true) := by
  intro n
  induction n with
  | zero => intro p; rfl
  | succ n ih => intro p; simp [writesS, textS_bad, markS_bad, ih]
theorem writesR_eq {bs : List UInt8} : ∀ (n : Nat) (s : Nat × Bool), enc (writesR bs n s).2 = enc (writesS bs n s).2 ∧ ((writesS bs n s).2.2 = false → writesR bs n s = writesS bs n s) := by
  intro n
  induction n with
  | zero => intro s; exact ⟨rfl, fun _ => rfl⟩
  | succ n ih =>
    intro s
    obtain ⟨p, d⟩ := s
    cases d with
    | true =>
      have h := writesS_stay (bs := bs) (n + 1) p
      rw [h]
      refine ⟨?_, fun h => by cases h⟩
      simp [writesR]
    | false =>
      have hv : (if (markS bs (textS bs (p, false)).2).1 || (markS bs (textS bs (p, false)).2).2.2 then (noBytes, (markS bs (textS bs (p, false)).2).2) else textS bs (markS bs (textS bs (p, false)).2).2) = (if (markS bs (textS bs (p, false)).2).1 then (noBytes, (markS bs (textS bs (p, false)).2).2) else textS bs (markS bs (textS bs (p, false)).2).2) := by
        generalize hm : markS bs (textS bs (p, false)).2 = m
        obtain ⟨g, q, d⟩ := m
        cases g
        · cases d
          · rfl
          · simp [textS_bad]
        · rfl
      simp only [writesR, writesS, Bool.false_eq_true, if_false, hv]
      generalize (if (markS bs (textS bs (p, false)).2).1 = true then (noBytes, (markS bs (textS bs (p, false)).2).2) else textS bs (markS bs (textS bs (p, false)).2).2) = v
      refine ⟨(ih _).1, fun h => ?_⟩
      rw [(ih _).2 h]
end Go.Proofs.Ytbifiagpmoakdaa.LF
