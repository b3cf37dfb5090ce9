/- The document's readers. -/
import Derived.Test.YtbifiagpmoakdaaLSe
set_option linter.unusedVariables false
set_option linter.unusedSimpArgs false
namespace Go.Proofs.Ytbifiagpmoakdaa.LF
open Go.RowKit

def enc (s : Nat × Bool) : Int := if s.2 then -1 else s.1
theorem enc_bad (p : Nat) : enc (p, true) = -1 := rfl
theorem enc_ok (p : Nat) : enc (p, false) = p := rfl

set_option maxHeartbeats 4000000 in
theorem refText_F {G : Ctx} (hP : G.P = Try.prog) (bs : List UInt8) (hl : bs.length ≤ 1000000000) (s : Nat × Bool) (hs : s.1 ≤ bs.length) :
    LFun G 36 [.one (.sl .sh (bL bs)), .one (iv (enc s))] (.tup [.one (sv (textS bs s).1), .one (iv (enc (textS bs s).2))]) := LFun.of fun S => by
  have hD : TabOK G.P D := by rw [hP]; exact hD0
  have hml : (bL bs).length = bs.length := List.length_map ..
  obtain ⟨p, bad⟩ := s
  have hs : p ≤ bs.length := hs
  cases bad with
  | true =>
    have hz : textS bs (p, true) = (noBytes, (p, true)) := by simp [textS, byteS]
    rw [hz, enc_bad]
    refine LCalls.enter (fn := Try.f36) (by rw [hP]; exact Try.func36) rfl rfl ?_
    repeat (first | refine LOps.nil ?_ | refine andThen_normal ?_ | refine andThen_exit ?_ | refine andThen_ret ?_ | refine inBlock_normal ?_ | refine inBlock_ret ?_ | refine inBlock_here ?_ | refine inBlock_out rfl ?_ | refine LWp.seq ?_ | refine LWp.region ?_ | refine LWp.block ?_ | refine LWp.exit ?_ | refine LWp.ret ?_ | refine LWp.skip ?_ | refine LOps.valA ?_ | refine LOps.outA ?_ | refine LOps.whenA ?_ | refine LOps.pickA ?_ | refine LOps.storeA ?_)
    refine LWp.condT rfl ?_
    repeat (first | refine LOps.nil ?_ | refine andThen_normal ?_ | refine andThen_exit ?_ | refine andThen_ret ?_ | refine inBlock_normal ?_ | refine inBlock_ret ?_ | refine inBlock_here ?_ | refine inBlock_out rfl ?_ | refine LWp.seq ?_ | refine LWp.region ?_ | refine LWp.block ?_ | refine LWp.exit ?_ | refine LWp.ret ?_ | refine LWp.skip ?_ | refine LOps.valA ?_ | refine LOps.outA ?_ | refine LOps.whenA ?_ | refine LOps.pickA ?_ | refine LOps.storeA ?_)
    exact ⟨_, LRes.two rfl, rfl, .refl _⟩
  | false =>
    rw [enc_ok]
    refine LCalls.enter (fn := Try.f36) (by rw [hP]; exact Try.func36) rfl rfl ?_
    have hc := (bs.getD p default).toNat_lt
    repeat (first | refine LOps.nil ?_ | refine andThen_normal ?_ | refine andThen_exit ?_ | refine andThen_ret ?_ | refine inBlock_normal ?_ | refine inBlock_ret ?_ | refine inBlock_here ?_ | refine inBlock_out rfl ?_ | refine LWp.seq ?_ | refine LWp.region ?_ | refine LWp.block ?_ | refine LWp.exit ?_ | refine LWp.ret ?_ | refine LWp.skip ?_ | refine LOps.valA ?_ | refine LOps.outA ?_ | refine LOps.whenA ?_ | refine LOps.pickA ?_ | refine LOps.storeA ?_)
    refine LWp.cond rfl (fun h => ?_) (fun h => ?_)
    · have h : ((decide ((p : Int) < 0) || decide ((p : Int) ≥ ((bL bs).length : Int))) || decide ((p : Int) + 1 + ((bs.getD p default).toNat : Int) > ((bL bs).length : Int))) = true := h
      rw [hml] at h
      have hz : (textS bs (p, false)).1 = noBytes ∧ (textS bs (p, false)).2.2 = true := by
        simp at h
        unfold textS
        simp only
        rw [if_pos]
        · exact ⟨rfl, rfl⟩
        · unfold byteS
          by_cases hlt : bs.length ≤ p
          · rw [if_pos (by simp [hlt])]; rfl
          · rw [if_neg (by simp; omega)]
            have hlt : p < bs.length := by omega
            simp [hlt] at h ⊢
            have : (bs.getD p 0).toNat = bs[p].toNat := by simp [hlt]
            omega
      repeat (first | refine LOps.nil ?_ | refine andThen_normal ?_ | refine andThen_exit ?_ | refine andThen_ret ?_ | refine inBlock_normal ?_ | refine inBlock_ret ?_ | refine inBlock_here ?_ | refine inBlock_out rfl ?_ | refine LWp.seq ?_ | refine LWp.region ?_ | refine LWp.block ?_ | refine LWp.exit ?_ | refine LWp.ret ?_ | refine LWp.skip ?_ | refine LOps.valA ?_ | refine LOps.outA ?_ | refine LOps.whenA ?_ | refine LOps.pickA ?_ | refine LOps.storeA ?_)
      exact ⟨_, LRes.two rfl, by rw [hz.1, enc, hz.2]; rfl, .refl _⟩
    · have h : ((decide ((p : Int) < 0) || decide ((p : Int) ≥ ((bL bs).length : Int))) || decide ((p : Int) + 1 + ((bs.getD p default).toNat : Int) > ((bL bs).length : Int))) = false := h
      rw [hml] at h
      simp at h
      obtain ⟨hlt, hle⟩ := h
      have hq : bs.getD p default = bs[p] := by simp [hlt]
      have hle : p + 1 + bs[p].toNat ≤ bs.length := by simp [hlt] at hle; omega
      have hb : byteS bs (p, false) = (bs[p].toNat, (p + 1, false)) := by
        unfold byteS
        rw [if_neg (by simp; omega)]
        simp [hlt]
      have hz : textS bs (p, false) = (⟨((bs.drop (p + 1)).take bs[p].toNat).toArray⟩, (p + 1 + bs[p].toNat, false)) := by
        unfold textS
        simp only [hb]
        rw [if_neg (by simp; omega)]
      rw [hq] at hc
      clear hq
      repeat (first | refine LOps.val (LVal.cutMap (m := p + 1) (n := p + 1 + bs[p].toNat) hD rfl rfl rfl rfl rfl rfl rfl (by omega) hle rfl (fun _ _ => rfl)) rfl rfl rfl ?_ | refine LOps.val (LVal.bytesStr hD rfl rfl rfl rfl rfl rfl rfl rfl) rfl rfl rfl ?_ | refine LOps.nil ?_ | refine andThen_normal ?_ | refine andThen_exit ?_ | refine andThen_ret ?_ | refine inBlock_normal ?_ | refine inBlock_ret ?_ | refine inBlock_here ?_ | refine inBlock_out rfl ?_ | refine LWp.seq ?_ | refine LWp.region ?_ | refine LWp.block ?_ | refine LWp.exit ?_ | refine LWp.ret ?_ | refine LWp.skip ?_ | refine LOps.valA ?_ | refine LOps.outA ?_ | refine LOps.whenA ?_ | refine LOps.pickA ?_ | refine LOps.storeA ?_)
      refine ⟨_, LRes.two rfl, ?_, .refl _⟩
      rw [hz, Nat.add_sub_cancel_left]; rfl
end Go.Proofs.Ytbifiagpmoakdaa.LF
