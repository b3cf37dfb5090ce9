/- Scripts: the data; the reader's steps; what the document's words answer: text, mark. -/
import Derived.Test.YtbifiagpmoakdaaLFu
import Derived.Test.YtbifiagpmoakdaaLFs
import Derived.Test.YtbifiagpmoakdaaLFtab
set_option linter.unusedVariables false
set_option linter.unusedSimpArgs false
namespace Go.Proofs.Ytbifiagpmoakdaa.LF
open Go.RowKit
abbrev iv (x : Int) : LV := .v (.int .i64 x)
abbrev sv (x : ByteArray) : LV := .v (.string x)
abbrev bv (x : Bool) : LV := .v (.bool x)
abbrev uv (x : Int) : LV := .v (.int .u8 x)
abbrev noBytes : ByteArray := { data := #[] }
abbrev bL (bs : List UInt8) : List (List LV) := bs.map byL
abbrev ptr (b : Nat) : TV := .one (.v (.pointer (some ⟨b, 0, none⟩)))
def rdL (bs : List UInt8) (p : Nat) (bad : Bool) : List LV := [.sl .sh (bL bs), iv (p : Nat), bv bad]

def byteS (bs : List UInt8) (s : Nat × Bool) : Nat × (Nat × Bool) := if s.2 || decide (bs.length ≤ s.1) then (0, (s.1, true)) else ((bs.getD s.1 0).toNat, (s.1 + 1, false))
def textS (bs : List UInt8) (s : Nat × Bool) : ByteArray × (Nat × Bool) :=
  let x := byteS bs s
  if x.2.2 || decide (bs.length < x.1 + x.2.1) then (noBytes, (x.2.1, true)) else (⟨((bs.drop x.2.1).take x.1).toArray⟩, (x.2.1 + x.1, false))
def markS (bs : List UInt8) (s : Nat × Bool) : Bool × (Nat × Bool) :=
  let x := byteS bs s
  (x.1 == 1, (x.2.1, x.2.2 || decide (1 < x.1)))

theorem byteS_lt (bs : List UInt8) (s : Nat × Bool) : (byteS bs s).1 < 256 := by
  unfold byteS
  split
  · simp
  · exact UInt8.toNat_lt _
theorem byteS_at {bs : List UInt8} {s : Nat × Bool} (h : s.1 ≤ bs.length) : (byteS bs s).2.1 ≤ bs.length := by
  unfold byteS
  split
  · exact h
  · rename_i hn
    simp at hn
    simp only
    omega

/-- A step of the reader. -/
def RdPost (b : Nat) (bs : List UInt8) (v : TV) (s1 : Nat × Bool) (S : LS) (r : TV) (S' : LS) : Prop := S.only (· = b) S' ∧ S'.box b = some (rdL bs s1.1 s1.2) ∧ r = v

set_option maxHeartbeats 4000000 in
theorem byte_L {G : Ctx} (hP : G.P = Try.prog) (bs : List UInt8) (hl : bs.length ≤ 1000000000) (s : Nat × Bool) (b : Nat) (S : LS) (hb : S.box b = some (rdL bs s.1 s.2)) (hs : s.1 ≤ bs.length) :
    LCalls G 24 [ptr b] (RdPost b bs (.one (iv ((byteS bs s).1 : Nat))) (byteS bs s).2 S) S := by
  have hD : TabOK G.P D := by rw [hP]; exact hD0
  obtain ⟨p, bad⟩ := s
  have hp : p ≤ bs.length := hs
  have hb : S.box b = some (rdL bs p bad) := hb
  have hml : (bL bs).length = bs.length := List.length_map ..
  refine LCalls.enter (fn := Try.f24) (by rw [hP]; exact Try.func24) rfl rfl ?_
  repeat (first | refine LOps.nil ?_ | refine andThen_normal ?_ | refine andThen_exit ?_ | refine andThen_ret ?_ | refine inBlock_normal ?_ | refine inBlock_ret ?_ | refine inBlock_here ?_ | refine inBlock_out rfl ?_ | refine LWp.seq ?_ | refine LWp.region ?_ | refine LWp.block ?_ | refine LWp.exit ?_ | refine LWp.ret ?_ | refine LWp.skip ?_ | refine LOps.valA ?_ | refine LOps.outA ?_ | refine LOps.whenA ?_ | refine LOps.pickA ?_ | refine LOps.storeA ?_)
  refine LWp.drawL [0, 1, 2, 3, 4, 5, 6, 7, 8, 9, 10, 11, 12, 13, 14, 15] (by rw [hP]; rfl) rfl ?_
  repeat (first | refine LRl.nil ?_ | refine LRl.valA ?_ | refine LRl.outA ?_ | refine LRl.whenA ?_ | refine LRl.pickA ?_)
  repeat (first | refine LOps.nil ?_ | refine andThen_normal ?_ | refine andThen_exit ?_ | refine andThen_ret ?_ | refine inBlock_normal ?_ | refine inBlock_ret ?_ | refine inBlock_here ?_ | refine inBlock_out rfl ?_ | refine LWp.seq ?_ | refine LWp.region ?_ | refine LWp.block ?_ | refine LWp.exit ?_ | refine LWp.ret ?_ | refine LWp.skip ?_ | refine LOps.valA ?_ | refine LOps.outA ?_ | refine LOps.whenA ?_ | refine LOps.pickA ?_ | refine LOps.storeA ?_)
  refine LWp.cond rfl (fun h => ?_) (fun h => ?_)
  · have h : (bad || decide ((p : Int) ≥ ((bL bs).length : Int))) = true := h
    have hz : byteS bs (p, bad) = (0, (p, true)) := by
      unfold byteS
      rw [if_pos]
      rw [hml] at h
      simpa using h
    repeat (first | refine LOps.nil ?_ | refine andThen_normal ?_ | refine andThen_exit ?_ | refine andThen_ret ?_ | refine inBlock_normal ?_ | refine inBlock_ret ?_ | refine inBlock_here ?_ | refine inBlock_out rfl ?_ | refine LWp.seq ?_ | refine LWp.region ?_ | refine LWp.block ?_ | refine LWp.exit ?_ | refine LWp.ret ?_ | refine LWp.skip ?_ | refine LOps.valA ?_ | refine LOps.outA ?_ | refine LOps.whenA ?_ | refine LOps.pickA ?_ | refine LOps.storeA ?_)
    refine ⟨_, LRes.one rfl, .setBox (F := (· = b)) rfl _, ?_, ?_⟩
    · rw [hz]; exact box_set _ _ _
    · rw [hz]; rfl
  · have h : (bad || decide ((p : Int) ≥ ((bL bs).length : Int))) = false := h
    rw [hml] at h
    simp at h
    obtain ⟨rfl, hlt⟩ := h
    have hlt' : p < bs.length := by omega
    have hz : byteS bs (p, false) = (bs[p].toNat, (p + 1, false)) := by
      unfold byteS
      rw [if_neg (by simp; omega)]
      simp [List.getD_eq_getElem?_getD, List.getElem?_eq_getElem hlt']
    have hc := bs[p].toNat_lt
    repeat (first | refine LOps.nil ?_ | refine andThen_normal ?_ | refine andThen_exit ?_ | refine andThen_ret ?_ | refine inBlock_normal ?_ | refine inBlock_ret ?_ | refine inBlock_here ?_ | refine inBlock_out rfl ?_ | refine LWp.seq ?_ | refine LWp.region ?_ | refine LWp.block ?_ | refine LWp.exit ?_ | refine LWp.ret ?_ | refine LWp.skip ?_ | refine LOps.valA ?_ | refine LOps.outA ?_ | refine LOps.whenA ?_ | refine LOps.pickA ?_ | refine LOps.storeA ?_)
    refine LWp.drawL [0, 1, 2, 3, 4, 5, 6, 7, 8, 9, 10, 11, 12] (by rw [hP]; rfl) rfl ?_
    repeat (first | refine LRl.valC (r := .one (iv (p : Int))) (fun _ => LVal.to (LVal.sub64 rfl rfl rfl (by omega)) (by simp)) ?_ | refine LRl.nil ?_ | refine LRl.valA ?_ | refine LRl.outA ?_ | refine LRl.whenA ?_ | refine LRl.pickA ?_)
    repeat (first | refine LOps.nil ?_ | refine andThen_normal ?_ | refine andThen_exit ?_ | refine andThen_ret ?_ | refine inBlock_normal ?_ | refine inBlock_ret ?_ | refine inBlock_here ?_ | refine inBlock_out rfl ?_ | refine LWp.seq ?_ | refine LWp.region ?_ | refine LWp.block ?_ | refine LWp.exit ?_ | refine LWp.ret ?_ | refine LWp.skip ?_ | refine LOps.valA ?_ | refine LOps.outA ?_ | refine LOps.whenA ?_ | refine LOps.pickA ?_ | refine LOps.storeA ?_)
    refine ⟨_, LRes.one rfl, .setBox (F := (· = b)) rfl _, ?_, ?_⟩
    · rw [hz]; exact box_set _ _ _
    · rw [hz]; rfl

set_option maxHeartbeats 4000000 in
theorem mark_L {G : Ctx} (hP : G.P = Try.prog) (bs : List UInt8) (hl : bs.length ≤ 1000000000) (s : Nat × Bool) (b : Nat) (S : LS) (hb : S.box b = some (rdL bs s.1 s.2)) (hs : s.1 ≤ bs.length) :
    LCalls G 34 [ptr b] (RdPost b bs (.one (bv (markS bs s).1)) (markS bs s).2 S) S := by
  have hD : TabOK G.P D := by rw [hP]; exact hD0
  obtain ⟨n, p, bad, hx⟩ : ∃ n p bad, byteS bs s = (n, (p, bad)) := ⟨_, _, _, rfl⟩
  have hc := byte_L hP bs hl s b S hb hs
  rw [hx] at hc
  have hc : LCalls G 24 [ptr b] (RdPost b bs (.one (iv (n : Int))) (p, bad) S) S := hc
  refine LCalls.enter (fn := Try.f34) (by rw [hP]; exact Try.func34) rfl rfl ?_
  repeat (first | refine LOps.nil ?_ | refine andThen_normal ?_ | refine andThen_exit ?_ | refine andThen_ret ?_ | refine inBlock_normal ?_ | refine inBlock_ret ?_ | refine inBlock_here ?_ | refine inBlock_out rfl ?_ | refine LWp.seq ?_ | refine LWp.region ?_ | refine LWp.block ?_ | refine LWp.exit ?_ | refine LWp.ret ?_ | refine LWp.skip ?_ | refine LOps.valA ?_ | refine LOps.outA ?_ | refine LOps.whenA ?_ | refine LOps.pickA ?_ | refine LOps.storeA ?_)
  refine LOps.do (LDo.callF hc (by rw [hP]; exact Try.func24)) rfl rfl rfl ?_
  rintro _ S1 ⟨o1, k1, rfl⟩
  have k1 : S1.box b = some (rdL bs p bad) := k1
  repeat (first | refine LOps.nil ?_ | refine andThen_normal ?_ | refine andThen_exit ?_ | refine andThen_ret ?_ | refine inBlock_normal ?_ | refine inBlock_ret ?_ | refine inBlock_here ?_ | refine inBlock_out rfl ?_ | refine LWp.seq ?_ | refine LWp.region ?_ | refine LWp.block ?_ | refine LWp.exit ?_ | refine LWp.ret ?_ | refine LWp.skip ?_ | refine LOps.valA ?_ | refine LOps.outA ?_ | refine LOps.whenA ?_ | refine LOps.pickA ?_ | refine LOps.storeA ?_)
  refine ⟨_, LRes.one rfl, o1.trans (.setBox (F := (· = b)) rfl _), ?_, ?_⟩
  · rw [box_set]
    simp only [markS, hx]
    have e : decide ((n : Int) > 1) = decide (1 < n) := by rw [decide_eq_decide]; omega
    rw [← e]; rfl
  · simp only [markS, hx]
    have e : ((n : Int) == 1) = (n == 1) := by
      by_cases h : n = 1
      · subst h; rfl
      · have : ((n : Int) == 1) = false := by simp; omega
        rw [this]; simp [h]
    rw [← e]; rfl

set_option maxHeartbeats 4000000 in
theorem text_L {G : Ctx} (hP : G.P = Try.prog) (bs : List UInt8) (hl : bs.length ≤ 1000000000) (s : Nat × Bool) (b : Nat) (S : LS) (hb : S.box b = some (rdL bs s.1 s.2)) (hs : s.1 ≤ bs.length) :
    LCalls G 33 [ptr b] (RdPost b bs (.one (sv (textS bs s).1)) (textS bs s).2 S) S := by
  have hD : TabOK G.P D := by rw [hP]; exact hD0
  have hml : (bL bs).length = bs.length := List.length_map ..
  obtain ⟨n, p, bad, hx⟩ : ∃ n p bad, byteS bs s = (n, (p, bad)) := ⟨_, _, _, rfl⟩
  have hc := byte_L hP bs hl s b S hb hs
  have hn := byteS_lt bs s
  have hp := byteS_at hs
  rw [hx] at hc hn hp
  have hc : LCalls G 24 [ptr b] (RdPost b bs (.one (iv (n : Int))) (p, bad) S) S := hc
  have hn : n < 256 := hn
  have hp : p ≤ bs.length := hp
  refine LCalls.enter (fn := Try.f33) (by rw [hP]; exact Try.func33) rfl rfl ?_
  repeat (first | refine LOps.nil ?_ | refine andThen_normal ?_ | refine andThen_exit ?_ | refine andThen_ret ?_ | refine inBlock_normal ?_ | refine inBlock_ret ?_ | refine inBlock_here ?_ | refine inBlock_out rfl ?_ | refine LWp.seq ?_ | refine LWp.region ?_ | refine LWp.block ?_ | refine LWp.exit ?_ | refine LWp.ret ?_ | refine LWp.skip ?_ | refine LOps.valA ?_ | refine LOps.outA ?_ | refine LOps.whenA ?_ | refine LOps.pickA ?_ | refine LOps.storeA ?_)
  refine LOps.do (LDo.callF hc (by rw [hP]; exact Try.func24)) rfl rfl rfl ?_
  rintro _ S1 ⟨o1, k1, rfl⟩
  have k1 : S1.box b = some (rdL bs p bad) := k1
  repeat (first | refine LOps.nil ?_ | refine andThen_normal ?_ | refine andThen_exit ?_ | refine andThen_ret ?_ | refine inBlock_normal ?_ | refine inBlock_ret ?_ | refine inBlock_here ?_ | refine inBlock_out rfl ?_ | refine LWp.seq ?_ | refine LWp.region ?_ | refine LWp.block ?_ | refine LWp.exit ?_ | refine LWp.ret ?_ | refine LWp.skip ?_ | refine LOps.valA ?_ | refine LOps.outA ?_ | refine LOps.whenA ?_ | refine LOps.pickA ?_ | refine LOps.storeA ?_)
  refine LWp.drawL [0, 1, 2, 3, 4, 5, 6, 7, 8, 9, 10, 11, 12, 13, 14, 15, 16, 17] (by rw [hP]; rfl) rfl ?_
  repeat (first | refine LRl.nil ?_ | refine LRl.valA ?_ | refine LRl.outA ?_ | refine LRl.whenA ?_ | refine LRl.pickA ?_)
  repeat (first | refine LOps.nil ?_ | refine andThen_normal ?_ | refine andThen_exit ?_ | refine andThen_ret ?_ | refine inBlock_normal ?_ | refine inBlock_ret ?_ | refine inBlock_here ?_ | refine inBlock_out rfl ?_ | refine LWp.seq ?_ | refine LWp.region ?_ | refine LWp.block ?_ | refine LWp.exit ?_ | refine LWp.ret ?_ | refine LWp.skip ?_ | refine LOps.valA ?_ | refine LOps.outA ?_ | refine LOps.whenA ?_ | refine LOps.pickA ?_ | refine LOps.storeA ?_)
  refine LWp.cond rfl (fun h => ?_) (fun h => ?_)
  · have h : (bad || decide ((n : Int) > ((bL bs).length : Int) - (p : Int))) = true := h
    have hz : textS bs s = (noBytes, (p, true)) := by
      simp only [textS, hx]
      rw [if_pos]
      rw [hml] at h
      simp at h ⊢
      rcases h with h | h
      · exact .inl h
      · exact .inr (by omega)
    repeat (first | refine LOps.nil ?_ | refine andThen_normal ?_ | refine andThen_exit ?_ | refine andThen_ret ?_ | refine inBlock_normal ?_ | refine inBlock_ret ?_ | refine inBlock_here ?_ | refine inBlock_out rfl ?_ | refine LWp.seq ?_ | refine LWp.region ?_ | refine LWp.block ?_ | refine LWp.exit ?_ | refine LWp.ret ?_ | refine LWp.skip ?_ | refine LOps.valA ?_ | refine LOps.outA ?_ | refine LOps.whenA ?_ | refine LOps.pickA ?_ | refine LOps.storeA ?_)
    refine ⟨_, LRes.one rfl, o1.trans (.setBox (F := (· = b)) rfl _), ?_, ?_⟩
    · rw [hz]; exact box_set _ _ _
    · rw [hz]; rfl
  · have h : (bad || decide ((n : Int) > ((bL bs).length : Int) - (p : Int))) = false := h
    rw [hml] at h
    simp at h
    obtain ⟨rfl, hle⟩ := h
    have hle' : p + n ≤ bs.length := by omega
    have hz : textS bs s = (⟨((bs.drop p).take n).toArray⟩, (p + n, false)) := by
      simp only [textS, hx]
      rw [if_neg (by simp; omega)]
    have hpn : p ≤ p + n := by omega
    repeat (first | refine LOps.nil ?_ | refine andThen_normal ?_ | refine andThen_exit ?_ | refine andThen_ret ?_ | refine inBlock_normal ?_ | refine inBlock_ret ?_ | refine inBlock_here ?_ | refine inBlock_out rfl ?_ | refine LWp.seq ?_ | refine LWp.region ?_ | refine LWp.block ?_ | refine LWp.exit ?_ | refine LWp.ret ?_ | refine LWp.skip ?_ | refine LOps.valA ?_ | refine LOps.outA ?_ | refine LOps.whenA ?_ | refine LOps.pickA ?_ | refine LOps.storeA ?_)
    refine LWp.drawL [0, 1, 2, 3, 4, 5, 6, 7, 8, 9, 10, 11, 12, 13, 14, 15, 16] (by rw [hP]; rfl) rfl ?_
    repeat (first | refine LRl.valC (r := .one (iv (p : Int))) (fun _ => LVal.to (LVal.sub64 rfl rfl rfl (by omega)) (by simp)) ?_ | refine LRl.valC (fun _ => LVal.cutMap (m := p) (n := p + n) hD rfl rfl rfl rfl rfl rfl rfl hpn hle' rfl (fun _ _ => rfl)) ?_ | refine LRl.valC (fun _ => LVal.bytesStr hD rfl rfl rfl rfl rfl rfl rfl rfl) ?_ | refine LRl.nil ?_ | refine LRl.valA ?_ | refine LRl.outA ?_ | refine LRl.whenA ?_ | refine LRl.pickA ?_)
    repeat (first | refine LOps.nil ?_ | refine andThen_normal ?_ | refine andThen_exit ?_ | refine andThen_ret ?_ | refine inBlock_normal ?_ | refine inBlock_ret ?_ | refine inBlock_here ?_ | refine inBlock_out rfl ?_ | refine LWp.seq ?_ | refine LWp.region ?_ | refine LWp.block ?_ | refine LWp.exit ?_ | refine LWp.ret ?_ | refine LWp.skip ?_ | refine LOps.valA ?_ | refine LOps.outA ?_ | refine LOps.whenA ?_ | refine LOps.pickA ?_ | refine LOps.storeA ?_)
    refine ⟨_, LRes.one rfl, o1.trans (.setBox (F := (· = b)) rfl _), ?_, ?_⟩
    · rw [hz]; exact box_set _ _ _
    · rw [hz, Nat.add_sub_cancel_left]; rfl
end Go.Proofs.Ytbifiagpmoakdaa.LF
