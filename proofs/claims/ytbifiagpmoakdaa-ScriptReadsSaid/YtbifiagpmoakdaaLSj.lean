/- The document's entry. -/
import Derived.Test.YtbifiagpmoakdaaLSi
set_option linter.unusedVariables false
set_option linter.unusedSimpArgs false
namespace Go.Proofs.Ytbifiagpmoakdaa.LF
open Go.RowKit

theorem opS_end {bs : List UInt8} {p : Nat} (h : bs.length ≤ p) : opS bs (p, false) = (noOp, (p, true)) := by
  simp only [opS, byteS_end h]; rfl
theorem opR_eq {bs : List UInt8} {p : Nat} : enc (opR bs p).2 = enc (opS bs (p, false)).2 ∧ ((opS bs (p, false)).2.2 = false → opR bs p = opS bs (p, false)) := by
  by_cases hlt : p < bs.length
  · have hc : (bs.getD p default) = bs[p] := getD_here hlt
    unfold opR
    by_cases h16 : 1 ≤ (bs.getD p default).toNat ∧ (bs.getD p default).toNat ≤ 6
    · rw [if_pos ⟨hlt, h16⟩]
      by_cases h6 : (bs.getD p default).toNat = 6
      · rw [if_pos h6]
        rw [hc] at h6
        simp only [opS, byteS_here hlt, batchR, h6]
        have := writesR_eq (bs := bs) (byteS bs (p + 1, false)).1 (byteS bs (p + 1, false)).2
        refine ⟨this.1, fun h => ?_⟩
        rw [this.2 h]; rfl
      · rw [if_neg h6]; exact ⟨rfl, fun _ => rfl⟩
    · rw [if_neg (fun h => h16 h.2)]
      rw [hc] at h16
      have e : (opS bs (p, false)).2.2 = true := by
        simp only [opS, byteS_here hlt]
        rw [if_neg (by omega), if_neg (by omega), if_neg (by omega), if_neg (by omega), if_neg (by omega)]
      refine ⟨?_, fun h => ?_⟩
      · simp only [enc, e]; rfl
      · rw [e] at h; cases h
  · have e := opS_end (Nat.not_lt.1 hlt)
    unfold opR
    rw [if_neg (fun h => hlt h.1), e]
    exact ⟨rfl, fun h => by cases h⟩

theorem numS_bad {bs : List UInt8} : ∀ (n i x p : Nat), (numS bs n i x (p, true)).2.2 = true := by
  intro n
  induction n with
  | zero => intro i x p; rfl
  | succ n ih => intro i x p; simp [numS, byteS_bad, ih]
theorem numS_short {bs : List UInt8} : ∀ (n i x p : Nat), p ≤ bs.length → bs.length < p + n → (numS bs n i x (p, false)).2.2 = true := by
  intro n
  induction n with
  | zero => intro i x p h1 h2; omega
  | succ n ih =>
    intro i x p h1 h2
    by_cases hlt : p < bs.length
    · simp only [numS, byteS_here hlt]; exact ih _ _ _ (by omega) (by omega)
    · simp only [numS, byteS_end (Nat.not_lt.1 hlt)]; exact numS_bad _ _ _ _
theorem num2 {bs : List UInt8} {p : Nat} (h : p + 2 ≤ bs.length) : numS bs 2 0 0 (p, false) = ((bs.getD p default).toNat + 256 * (bs.getD (p + 1) default).toNat, (p + 2, false)) := by
  have h0 : p < bs.length := by omega
  have h1 : p + 1 < bs.length := by omega
  simp only [numS, byteS_here h0, byteS_here h1, getD_here h0, getD_here h1, Prod.mk.injEq, and_true]
  omega
theorem num4 {bs : List UInt8} {p : Nat} (h : p + 4 ≤ bs.length) : numS bs 4 0 0 (p, false) = ((bs.getD p default).toNat + 256 * ((bs.getD (p + 1) default).toNat + 256 * ((bs.getD (p + 2) default).toNat + 256 * (bs.getD (p + 3) default).toNat)), (p + 4, false)) := by
  have h0 : p < bs.length := by omega
  have h1 : p + 1 < bs.length := by omega
  have h2 : p + 1 + 1 < bs.length := by omega
  have h3 : p + 1 + 1 + 1 < bs.length := by omega
  have e2 : p + 1 + 1 = p + 2 := by omega
  have e3 : p + 1 + 1 + 1 = p + 3 := by omega
  simp only [numS, byteS_here h0, byteS_here h1, byteS_here h2, byteS_here h3, getD_here h0, getD_here h1, ← e2, getD_here h2, ← e3, getD_here h3, Prod.mk.injEq, and_true]
  omega

def enR (bs : List UInt8) (p : Nat) : En × (Nat × Bool) :=
  if (bs.getD p default).toNat = 1 then (⟨1, 0, 0, (opR bs (p + 1)).1⟩, (opR bs (p + 1)).2)
  else if (enS bs (p, false)).2.2 then (⟨(bs.getD p default).toNat, 0, 0, noOp⟩, (p, true)) else enS bs (p, false)
theorem enR_eq {bs : List UInt8} {p : Nat} (hlt : p < bs.length) : enc (enR bs p).2 = enc (enS bs (p, false)).2 ∧ ((enS bs (p, false)).2.2 = false → enR bs p = enS bs (p, false)) := by
  unfold enR
  split
  · rename_i h
    rw [getD_here hlt] at h
    have e : enS bs (p, false) = (⟨1, 0, 0, (opS bs (p + 1, false)).1⟩, (opS bs (p + 1, false)).2) := by
      simp only [enS, byteS_here hlt, h, if_true]; rfl
    rw [e]
    refine ⟨opR_eq.1, fun h => ?_⟩
    rw [opR_eq.2 h]
  · split
    · rename_i h
      refine ⟨?_, fun h' => by rw [h] at h'; cases h'⟩
      simp only [enc, h]; rfl
    · exact ⟨rfl, fun _ => rfl⟩

theorem enR_bad {bs : List UInt8} {p c : Nat} (hlt : p < bs.length) (hc : bs[p].toNat = c) (h1 : ¬ c = 1) (h : (enS bs (p, false)).2.2 = true) : enR bs p = (⟨c, 0, 0, noOp⟩, (p, true)) := by
  unfold enR
  rw [getD_here hlt, hc, if_neg h1, if_pos h]
theorem enR_ok {bs : List UInt8} {p c : Nat} (hlt : p < bs.length) (hc : bs[p].toNat = c) (h1 : ¬ c = 1) (h : (enS bs (p, false)).2.2 = false) : enR bs p = enS bs (p, false) := by
  unfold enR
  rw [getD_here hlt, hc, if_neg h1, if_neg (by rw [h]; decide)]
theorem byte_short {bs : List UInt8} {s : Nat × Bool} (h : s.2 = true ∨ bs.length ≤ s.1) : (byteS bs s).2.2 = true := by
  obtain ⟨q, d⟩ := s
  cases d with
  | true => simp [byteS]
  | false =>
    rcases h with h | h
    · cases h
    · rw [byteS_end h]

/-- The bytes of a number, the highest first. -/
def hv (bs : List UInt8) (q : Nat) : Nat → Nat
  | 0 => 0
  | j + 1 => 256 * hv bs q j + (bs.getD (q + (3 - j)) default).toNat
theorem hv_lt (bs : List UInt8) (q : Nat) : ∀ j, j ≤ 4 → hv bs q j < 256 ^ j := by
  intro j
  induction j with
  | zero => intro _; simp [hv]
  | succ j ih =>
    intro h
    have := ih (by omega)
    have hb := (bs.getD (q + (3 - j)) default).toNat_lt
    have e : 256 ^ (j + 1) = 256 * 256 ^ j := by rw [Nat.pow_succ, Nat.mul_comm]
    rw [e]
    simp only [hv]
    omega

set_option maxHeartbeats 16000000 in
theorem refEntry_F {G : Ctx} (hP : G.P = Try.prog) (bs : List UInt8) (hl : bs.length ≤ 1000000000) (p : Nat) (hlt : p < bs.length) :
    LFun G 19 [.one (.sl .sh (bL bs)), .one (iv (p : Nat))] (.tup [.agg (enL (enR bs p).1), .one (iv (enc (enR bs p).2))]) := LFun.of fun S => by
  have hD : TabOK G.P D := by rw [hP]; exact hD0
  have hml : (bL bs).length = bs.length := List.length_map ..
  have hc := bs[p].toNat_lt
  have hp1 : p + 1 ≤ bs.length := hlt
  obtain ⟨c, hcc⟩ : ∃ c, bs[p].toNat = c := ⟨_, rfl⟩
  have d1 := (bs.getD (p + 1) default).toNat_lt
  have d2 := (bs.getD (p + 2) default).toNat_lt
  refine LCalls.enter (fn := Try.f19) (by rw [hP]; exact Try.func19) rfl rfl ?_
  repeat (first | refine LOps.nil ?_ | refine andThen_normal ?_ | refine andThen_exit ?_ | refine andThen_ret ?_ | refine inBlock_normal ?_ | refine inBlock_ret ?_ | refine inBlock_here ?_ | refine inBlock_out rfl ?_ | refine LWp.seq ?_ | refine LWp.region ?_ | refine LWp.block ?_ | refine LWp.exit ?_ | refine LWp.ret ?_ | refine LWp.skip ?_ | refine LOps.valA ?_ | refine LOps.outA ?_ | refine LOps.whenA ?_ | refine LOps.pickA ?_ | refine LOps.storeA ?_)
  refine LOps.do (LDo.alloc hD rfl rfl rfl) rfl rfl rfl ?_
  rintro _ _ ⟨b4, hb4, rfl, rfl⟩
  repeat (first | refine LOps.nil ?_ | refine andThen_normal ?_ | refine andThen_exit ?_ | refine andThen_ret ?_ | refine inBlock_normal ?_ | refine inBlock_ret ?_ | refine inBlock_here ?_ | refine inBlock_out rfl ?_ | refine LWp.seq ?_ | refine LWp.region ?_ | refine LWp.block ?_ | refine LWp.exit ?_ | refine LWp.ret ?_ | refine LWp.skip ?_ | refine LOps.valA ?_ | refine LOps.outA ?_ | refine LOps.whenA ?_ | refine LOps.pickA ?_ | refine LOps.storeA ?_)
  refine LOps.do (LDo.alloc hD rfl rfl rfl) rfl rfl rfl ?_
  rintro _ _ ⟨b6, hb6, rfl, rfl⟩
  have n46 := fresh_ne hb6 (box_new S b4 (lzero ti35))
  have s6 := (LS.le.newBox (.refl S) hb4 (lzero ti35)).none hb6
  repeat (first | refine LOps.gen (fun S1 => BtJ S S1 b4 b6 (lzero ti35) (enW .nil ⟨c, 0, 0, noOp⟩)) (by rw [← hcc]; exact ⟨((LS.le.newBox (.refl S) hb4 _).newBox hb6 _).setBox s6 _, (box_set_ne _ _ n46).trans ((box_new_ne _ _ n46).trans (box_new _ _ _)), box_set _ _ _, n46, hb4.box, s6⟩) ?_ | refine LOps.nil ?_ | refine andThen_normal ?_ | refine andThen_exit ?_ | refine andThen_ret ?_ | refine inBlock_normal ?_ | refine inBlock_ret ?_ | refine inBlock_here ?_ | refine inBlock_out rfl ?_ | refine LWp.seq ?_ | refine LWp.region ?_ | refine LWp.block ?_ | refine LWp.exit ?_ | refine LWp.ret ?_ | refine LWp.skip ?_ | refine LOps.valA ?_ | refine LOps.outA ?_ | refine LOps.whenA ?_ | refine LOps.pickA ?_ | refine LOps.storeA ?_)
  clear hb4 hb6 n46 s6
  intro S1 hJ
  have k6 := hJ.k6
  have k4 := hJ.k4
  have n46 := hJ.n46
  repeat (first | refine LOps.nil ?_ | refine andThen_normal ?_ | refine andThen_exit ?_ | refine andThen_ret ?_ | refine inBlock_normal ?_ | refine inBlock_ret ?_ | refine inBlock_here ?_ | refine inBlock_out rfl ?_ | refine LWp.seq ?_ | refine LWp.region ?_ | refine LWp.block ?_ | refine LWp.exit ?_ | refine LWp.ret ?_ | refine LWp.skip ?_ | refine LOps.valA ?_ | refine LOps.outA ?_ | refine LOps.whenA ?_ | refine LOps.pickA ?_ | refine LOps.storeA ?_)
  rw [hcc] at hc
  refine LWp.cond rfl (fun h => ?_) (fun h => ?_)
  · have h1 : c = 1 := by simp at h; omega
    subst h1
    have hz : enR bs p = (⟨1, 0, 0, (opR bs (p + 1)).1⟩, (opR bs (p + 1)).2) := by
      unfold enR
      rw [getD_here hlt, if_pos hcc]
    rw [hz]
    repeat (first | refine LOps.nil ?_ | refine andThen_normal ?_ | refine andThen_exit ?_ | refine andThen_ret ?_ | refine inBlock_normal ?_ | refine inBlock_ret ?_ | refine inBlock_here ?_ | refine inBlock_out rfl ?_ | refine LWp.seq ?_ | refine LWp.region ?_ | refine LWp.block ?_ | refine LWp.exit ?_ | refine LWp.ret ?_ | refine LWp.skip ?_ | refine LOps.val (LVal.call rfl rfl (by rw [hP]; exact Try.func27) rfl (by decide) (refOp_F hP bs hl (p + 1) hp1)) rfl rfl rfl ?_ | refine LOps.whenC (LVal.call rfl rfl (by rw [hP]; exact Try.func27) rfl (by decide) (refOp_F hP bs hl (p + 1) hp1)) ?_ | refine LOps.valA ?_ | refine LOps.outA ?_ | refine LOps.whenA ?_ | refine LOps.pickA ?_ | refine LOps.storeA ?_)
    exact ⟨_, LRes.sh (LRes.many rfl rfl (.cons (.cell rfl (box_set _ _ _) (hP ▸ tok35) rfl) (.cons (.tmp _) .nil))), rfl, (hJ.set _).le.setBox hJ.s4 _⟩
  have h1 : ¬ c = 1 := by simp at h; omega
  repeat (first | refine LOps.nil ?_ | refine andThen_normal ?_ | refine andThen_exit ?_ | refine andThen_ret ?_ | refine inBlock_normal ?_ | refine inBlock_ret ?_ | refine inBlock_here ?_ | refine inBlock_out rfl ?_ | refine LWp.seq ?_ | refine LWp.region ?_ | refine LWp.block ?_ | refine LWp.exit ?_ | refine LWp.ret ?_ | refine LWp.skip ?_ | refine LOps.valA ?_ | refine LOps.outA ?_ | refine LOps.whenA ?_ | refine LOps.pickA ?_ | refine LOps.storeA ?_)
  refine LWp.cond rfl (fun h => ?_) (fun h => ?_)
  · have h2 : c = 2 := by simp at h; omega
    subst h2
    have e0 : enS bs (p, false) = (⟨2, (numS bs 2 0 0 (p + 1, false)).1, 0, noOp⟩, (numS bs 2 0 0 (p + 1, false)).2) := by
      simp only [enS, byteS_here hlt, hcc]; rfl
    repeat (first | refine LOps.nil ?_ | refine andThen_normal ?_ | refine andThen_exit ?_ | refine andThen_ret ?_ | refine inBlock_normal ?_ | refine inBlock_ret ?_ | refine inBlock_here ?_ | refine inBlock_out rfl ?_ | refine LWp.seq ?_ | refine LWp.region ?_ | refine LWp.block ?_ | refine LWp.exit ?_ | refine LWp.ret ?_ | refine LWp.skip ?_ | refine LOps.valA ?_ | refine LOps.outA ?_ | refine LOps.whenA ?_ | refine LOps.pickA ?_ | refine LOps.storeA ?_)
    refine LWp.cond rfl (fun h => ?_) (fun h => ?_)
    · have h : bs.length < p + 3 := by simp at h; omega
      rw [enR_bad hlt hcc h1 (by rw [e0]; exact numS_short 2 0 0 (p + 1) hp1 (by omega))]
      repeat (first | refine LOps.nil ?_ | refine andThen_normal ?_ | refine andThen_exit ?_ | refine andThen_ret ?_ | refine inBlock_normal ?_ | refine inBlock_ret ?_ | refine inBlock_here ?_ | refine inBlock_out rfl ?_ | refine LWp.seq ?_ | refine LWp.region ?_ | refine LWp.block ?_ | refine LWp.exit ?_ | refine LWp.ret ?_ | refine LWp.skip ?_ | refine LOps.valA ?_ | refine LOps.outA ?_ | refine LOps.whenA ?_ | refine LOps.pickA ?_ | refine LOps.storeA ?_)
      exact ⟨_, LRes.sh (LRes.many rfl rfl (.cons (.cell rfl (box_set _ _ _) (hP ▸ tok35) rfl) (.cons (.tmp _) .nil))), rfl, hJ.le.setBox hJ.s4 _⟩
    · have h : p + 3 ≤ bs.length := by simp at h; omega
      have e1 := num2 (bs := bs) (p := p + 1) (by omega)
      rw [e1] at e0
      rw [enR_ok hlt hcc h1 (by rw [e0]), e0]
      clear e0 e1
      repeat (first | refine LOps.nil ?_ | refine andThen_normal ?_ | refine andThen_exit ?_ | refine andThen_ret ?_ | refine inBlock_normal ?_ | refine inBlock_ret ?_ | refine inBlock_here ?_ | refine inBlock_out rfl ?_ | refine LWp.seq ?_ | refine LWp.region ?_ | refine LWp.block ?_ | refine LWp.exit ?_ | refine LWp.ret ?_ | refine LWp.skip ?_ | refine LOps.valA ?_ | refine LOps.outA ?_ | refine LOps.whenA ?_ | refine LOps.pickA ?_ | refine LOps.storeA ?_)
      refine LWp.drawL [0, 1, 2, 3, 4, 5, 6, 7, 8, 9, 10, 11, 12, 13, 14] (by rw [hP]; rfl) rfl ?_
      repeat (first | refine LRl.valC (fun _ => (LVal.indexG (n := p + 1) (xs := bs) hD rfl rfl rfl rfl rfl rfl rfl (by omega) rfl)) ?_ | refine LRl.valC (fun _ => (LVal.indexG (n := p + 2) (xs := bs) hD rfl rfl rfl rfl rfl rfl rfl (by omega) rfl)) ?_ | refine LRl.nil ?_ | refine LRl.valA ?_ | refine LRl.outA ?_ | refine LRl.whenA ?_ | refine LRl.pickA ?_)
      refine LRl.act0 (LDo.store hD rfl rfl k6 rfl rfl rfl rfl) rfl rfl rfl (fun _ _ _ => .inr rfl) ?_
      rintro _ _ ⟨rfl, rfl⟩
      repeat (first | refine LRl.nil ?_ | refine LRl.valA ?_ | refine LRl.outA ?_ | refine LRl.whenA ?_ | refine LRl.pickA ?_)
      repeat (first | refine LOps.nil ?_ | refine andThen_normal ?_ | refine andThen_exit ?_ | refine andThen_ret ?_ | refine inBlock_normal ?_ | refine inBlock_ret ?_ | refine inBlock_here ?_ | refine inBlock_out rfl ?_ | refine LWp.seq ?_ | refine LWp.region ?_ | refine LWp.block ?_ | refine LWp.exit ?_ | refine LWp.ret ?_ | refine LWp.skip ?_ | refine LOps.valA ?_ | refine LOps.outA ?_ | refine LOps.whenA ?_ | refine LOps.pickA ?_ | refine LOps.storeA ?_)
      exact ⟨_, LRes.sh (LRes.many rfl rfl (.cons (.cell rfl (box_set _ _ _) (hP ▸ tok35) rfl) (.cons (.tmp _) .nil))), rfl, (hJ.set _).le.setBox hJ.s4 _⟩
  have h2 : ¬ c = 2 := by simp at h; omega
  repeat (first | refine LOps.nil ?_ | refine andThen_normal ?_ | refine andThen_exit ?_ | refine andThen_ret ?_ | refine inBlock_normal ?_ | refine inBlock_ret ?_ | refine inBlock_here ?_ | refine inBlock_out rfl ?_ | refine LWp.seq ?_ | refine LWp.region ?_ | refine LWp.block ?_ | refine LWp.exit ?_ | refine LWp.ret ?_ | refine LWp.skip ?_ | refine LOps.valA ?_ | refine LOps.outA ?_ | refine LOps.whenA ?_ | refine LOps.pickA ?_ | refine LOps.storeA ?_)
  refine LWp.cond rfl (fun h => ?_) (fun h => ?_)
  · have h3 : c = 3 := by simp at h; omega
    subst h3
    have e0 : enS bs (p, false) = (⟨3, (byteS bs (p + 1, false)).1, (byteS bs (byteS bs (p + 1, false)).2).1, noOp⟩, (byteS bs (byteS bs (p + 1, false)).2).2) := by
      simp only [enS, byteS_here hlt, hcc]; rfl
    repeat (first | refine LOps.nil ?_ | refine andThen_normal ?_ | refine andThen_exit ?_ | refine andThen_ret ?_ | refine inBlock_normal ?_ | refine inBlock_ret ?_ | refine inBlock_here ?_ | refine inBlock_out rfl ?_ | refine LWp.seq ?_ | refine LWp.region ?_ | refine LWp.block ?_ | refine LWp.exit ?_ | refine LWp.ret ?_ | refine LWp.skip ?_ | refine LOps.valA ?_ | refine LOps.outA ?_ | refine LOps.whenA ?_ | refine LOps.pickA ?_ | refine LOps.storeA ?_)
    refine LWp.cond rfl (fun h => ?_) (fun h => ?_)
    · have h : bs.length < p + 3 := by simp at h; omega
      have hb : (byteS bs (byteS bs (p + 1, false)).2).2.2 = true := by
        by_cases h1 : p + 1 < bs.length
        · rw [byteS_here h1]; exact byte_short (.inr (show bs.length ≤ p + 1 + 1 by omega))
        · rw [byteS_end (Nat.not_lt.1 h1)]; exact byte_short (.inl rfl)
      rw [enR_bad hlt hcc h1 (by rw [e0]; exact hb)]
      repeat (first | refine LOps.nil ?_ | refine andThen_normal ?_ | refine andThen_exit ?_ | refine andThen_ret ?_ | refine inBlock_normal ?_ | refine inBlock_ret ?_ | refine inBlock_here ?_ | refine inBlock_out rfl ?_ | refine LWp.seq ?_ | refine LWp.region ?_ | refine LWp.block ?_ | refine LWp.exit ?_ | refine LWp.ret ?_ | refine LWp.skip ?_ | refine LOps.valA ?_ | refine LOps.outA ?_ | refine LOps.whenA ?_ | refine LOps.pickA ?_ | refine LOps.storeA ?_)
      exact ⟨_, LRes.sh (LRes.many rfl rfl (.cons (.cell rfl (box_set _ _ _) (hP ▸ tok35) rfl) (.cons (.tmp _) .nil))), rfl, hJ.le.setBox hJ.s4 _⟩
    · have h : p + 3 ≤ bs.length := by simp at h; omega
      have q1 : p + 1 < bs.length := by omega
      have q2 : p + 1 + 1 < bs.length := by omega
      rw [byteS_here q1] at e0
      have e0 : enS bs (p, false) = (⟨3, bs[p + 1].toNat, (byteS bs (p + 1 + 1, false)).1, noOp⟩, (byteS bs (p + 1 + 1, false)).2) := e0
      rw [byteS_here q2, ← getD_here q1, ← getD_here q2] at e0
      rw [enR_ok hlt hcc h1 (by rw [e0]), e0]
      clear e0
      repeat (first | refine LOps.val (LVal.indexG (n := p + 1) (xs := bs) hD rfl rfl rfl rfl rfl rfl rfl (by omega) rfl) rfl rfl rfl ?_ | refine LOps.val (LVal.indexG (n := p + 2) (xs := bs) hD rfl rfl rfl rfl rfl rfl rfl (by omega) rfl) rfl rfl rfl ?_ | refine LOps.nil ?_ | refine andThen_normal ?_ | refine andThen_exit ?_ | refine andThen_ret ?_ | refine inBlock_normal ?_ | refine inBlock_ret ?_ | refine inBlock_here ?_ | refine inBlock_out rfl ?_ | refine LWp.seq ?_ | refine LWp.region ?_ | refine LWp.block ?_ | refine LWp.exit ?_ | refine LWp.ret ?_ | refine LWp.skip ?_ | refine LOps.valA ?_ | refine LOps.outA ?_ | refine LOps.whenA ?_ | refine LOps.pickA ?_ | refine LOps.storeA ?_)
      exact ⟨_, LRes.sh (LRes.many rfl rfl (.cons (.cell rfl (box_set _ _ _) (hP ▸ tok35) rfl) (.cons (.tmp _) .nil))), rfl, ((hJ.set _).set _).le.setBox hJ.s4 _⟩
  have h3 : ¬ c = 3 := by simp at h; omega
  repeat (first | refine LWp.seq (LWp.cut 19 (fun T' S' => S' = S1 ∧ ∃ T'', T' = over T'' [(0, .one (.sl .sh (bL bs))), (1, .one (iv ((p : Int) + 1))), (4, ptr b4), (6, ptr b6), (7, .one (iv ((bs.length : Int) - p - 1))), (22, .one (uv (c : Int))), (77, .one (bv (decide (c = 4 ∨ c = 5))))]) rfl ?_ ?_) | refine LOps.nil ?_ | refine andThen_normal ?_ | refine andThen_exit ?_ | refine andThen_ret ?_ | refine inBlock_normal ?_ | refine inBlock_ret ?_ | refine inBlock_here ?_ | refine inBlock_out rfl ?_ | refine LWp.seq ?_ | refine LWp.region ?_ | refine LWp.block ?_ | refine LWp.exit ?_ | refine LWp.ret ?_ | refine LWp.skip ?_ | refine LOps.valA ?_ | refine LOps.outA ?_ | refine LOps.whenA ?_ | refine LOps.pickA ?_ | refine LOps.storeA ?_)
  · repeat (first | refine LOps.nil ?_ | refine andThen_normal ?_ | refine andThen_exit ?_ | refine andThen_ret ?_ | refine inBlock_normal ?_ | refine inBlock_ret ?_ | refine inBlock_here ?_ | refine inBlock_out rfl ?_ | refine LWp.seq ?_ | refine LWp.region ?_ | refine LWp.block ?_ | refine LWp.exit ?_ | refine LWp.ret ?_ | refine LWp.skip ?_ | refine LOps.valA ?_ | refine LOps.outA ?_ | refine LOps.whenA ?_ | refine LOps.pickA ?_ | refine LOps.storeA ?_)
    refine LWp.cond rfl (fun h => ?_) (fun h => ?_)
    · have h1 : c = 4 := by simp at h; omega
      repeat (first | refine LOps.nil ?_ | refine andThen_normal ?_ | refine andThen_exit ?_ | refine andThen_ret ?_ | refine inBlock_normal ?_ | refine inBlock_ret ?_ | refine inBlock_here ?_ | refine inBlock_out rfl ?_ | refine LWp.seq ?_ | refine LWp.region ?_ | refine LWp.block ?_ | refine LWp.exit ?_ | refine LWp.ret ?_ | refine LWp.skip ?_ | refine LOps.valA ?_ | refine LOps.outA ?_ | refine LOps.whenA ?_ | refine LOps.pickA ?_ | refine LOps.storeA ?_)
      exact ⟨rfl, _, holds.over ⟨rfl, rfl, rfl, rfl, by rw [← hml]; rfl, rfl, by subst h1; rfl, trivial⟩⟩
    · have h1 : ¬ c = 4 := by simp at h; omega
      repeat (first | refine LOps.nil ?_ | refine andThen_normal ?_ | refine andThen_exit ?_ | refine andThen_ret ?_ | refine inBlock_normal ?_ | refine inBlock_ret ?_ | refine inBlock_here ?_ | refine inBlock_out rfl ?_ | refine LWp.seq ?_ | refine LWp.region ?_ | refine LWp.block ?_ | refine LWp.exit ?_ | refine LWp.ret ?_ | refine LWp.skip ?_ | refine LOps.valA ?_ | refine LOps.outA ?_ | refine LOps.whenA ?_ | refine LOps.pickA ?_ | refine LOps.storeA ?_)
      refine ⟨rfl, _, holds.over ⟨rfl, rfl, rfl, rfl, by rw [← hml]; rfl, rfl, ?_, trivial⟩⟩
      have : decide (c = 4 ∨ c = 5) = ((c : Int) == 5) := by
        by_cases h3 : c = 5
        · subst h3; rfl
        · have : ((c : Int) == 5) = false := by simp; omega
          rw [this]; simp [h1, h3]
      rw [this]; rfl
  rintro T' S4 ⟨rfl, T'', rfl⟩
  repeat (first | refine LOps.nil ?_ | refine andThen_normal ?_ | refine andThen_exit ?_ | refine andThen_ret ?_ | refine inBlock_normal ?_ | refine inBlock_ret ?_ | refine inBlock_here ?_ | refine inBlock_out rfl ?_ | refine LWp.seq ?_ | refine LWp.region ?_ | refine LWp.block ?_ | refine LWp.exit ?_ | refine LWp.ret ?_ | refine LWp.skip ?_ | refine LOps.valA ?_ | refine LOps.outA ?_ | refine LOps.whenA ?_ | refine LOps.pickA ?_ | refine LOps.storeA ?_)
  refine LWp.cond rfl (fun h => ?_) (fun h => ?_)
  · have h4 : c = 4 ∨ c = 5 := by simpa using h
    have e0 : enS bs (p, false) = (⟨c, (byteS bs (p + 1, false)).1, 0, noOp⟩, (byteS bs (p + 1, false)).2) := by
      simp only [enS, byteS_here hlt, hcc]
      rw [if_neg h1, if_neg h2, if_neg h3, if_pos h4]
    repeat (first | refine LOps.nil ?_ | refine andThen_normal ?_ | refine andThen_exit ?_ | refine andThen_ret ?_ | refine inBlock_normal ?_ | refine inBlock_ret ?_ | refine inBlock_here ?_ | refine inBlock_out rfl ?_ | refine LWp.seq ?_ | refine LWp.region ?_ | refine LWp.block ?_ | refine LWp.exit ?_ | refine LWp.ret ?_ | refine LWp.skip ?_ | refine LOps.valA ?_ | refine LOps.outA ?_ | refine LOps.whenA ?_ | refine LOps.pickA ?_ | refine LOps.storeA ?_)
    refine LWp.cond rfl (fun h => ?_) (fun h => ?_)
    · have h : bs.length < p + 2 := by simp at h; omega
      rw [enR_bad hlt hcc h1 (by rw [e0]; exact byte_short (.inr (show bs.length ≤ p + 1 by omega)))]
      repeat (first | refine LOps.nil ?_ | refine andThen_normal ?_ | refine andThen_exit ?_ | refine andThen_ret ?_ | refine inBlock_normal ?_ | refine inBlock_ret ?_ | refine inBlock_here ?_ | refine inBlock_out rfl ?_ | refine LWp.seq ?_ | refine LWp.region ?_ | refine LWp.block ?_ | refine LWp.exit ?_ | refine LWp.ret ?_ | refine LWp.skip ?_ | refine LOps.valA ?_ | refine LOps.outA ?_ | refine LOps.whenA ?_ | refine LOps.pickA ?_ | refine LOps.storeA ?_)
      exact ⟨_, LRes.sh (LRes.many rfl rfl (.cons (.cell rfl (box_set _ _ _) (hP ▸ tok35) rfl) (.cons (.tmp _) .nil))), rfl, hJ.le.setBox hJ.s4 _⟩
    · have h : p + 2 ≤ bs.length := by simp at h; omega
      have q1 : p + 1 < bs.length := by omega
      rw [byteS_here q1, ← getD_here q1] at e0
      rw [enR_ok hlt hcc h1 (by rw [e0]), e0]
      clear e0
      repeat (first | refine LOps.val (LVal.indexG (n := p + 1) (xs := bs) hD rfl rfl rfl rfl rfl rfl rfl (by omega) rfl) rfl rfl rfl ?_ | refine LOps.val (LVal.indexG (n := p + 2) (xs := bs) hD rfl rfl rfl rfl rfl rfl rfl (by omega) rfl) rfl rfl rfl ?_ | refine LOps.nil ?_ | refine andThen_normal ?_ | refine andThen_exit ?_ | refine andThen_ret ?_ | refine inBlock_normal ?_ | refine inBlock_ret ?_ | refine inBlock_here ?_ | refine inBlock_out rfl ?_ | refine LWp.seq ?_ | refine LWp.region ?_ | refine LWp.block ?_ | refine LWp.exit ?_ | refine LWp.ret ?_ | refine LWp.skip ?_ | refine LOps.valA ?_ | refine LOps.outA ?_ | refine LOps.whenA ?_ | refine LOps.pickA ?_ | refine LOps.storeA ?_)
      exact ⟨_, LRes.sh (LRes.many rfl rfl (.cons (.cell rfl (box_set _ _ _) (hP ▸ tok35) rfl) (.cons (.tmp _) .nil))), rfl, (hJ.set _).le.setBox hJ.s4 _⟩
  have h4 : ¬ (c = 4 ∨ c = 5) := by simpa using h
  repeat (first | refine LOps.nil ?_ | refine andThen_normal ?_ | refine andThen_exit ?_ | refine andThen_ret ?_ | refine inBlock_normal ?_ | refine inBlock_ret ?_ | refine inBlock_here ?_ | refine inBlock_out rfl ?_ | refine LWp.seq ?_ | refine LWp.region ?_ | refine LWp.block ?_ | refine LWp.exit ?_ | refine LWp.ret ?_ | refine LWp.skip ?_ | refine LOps.valA ?_ | refine LOps.outA ?_ | refine LOps.whenA ?_ | refine LOps.pickA ?_ | refine LOps.storeA ?_)
  refine LWp.cond rfl (fun h => ?_) (fun h => ?_)
  · have h6 : c = 6 := by simp at h; omega
    subst h6
    have e0 : enS bs (p, false) = (⟨6, (numS bs 4 0 0 (p + 1, false)).1, 0, noOp⟩, (numS bs 4 0 0 (p + 1, false)).2) := by
      simp only [enS, byteS_here hlt, hcc]; rfl
    repeat (first | refine LOps.nil ?_ | refine andThen_normal ?_ | refine andThen_exit ?_ | refine andThen_ret ?_ | refine inBlock_normal ?_ | refine inBlock_ret ?_ | refine inBlock_here ?_ | refine inBlock_out rfl ?_ | refine LWp.seq ?_ | refine LWp.region ?_ | refine LWp.block ?_ | refine LWp.exit ?_ | refine LWp.ret ?_ | refine LWp.skip ?_ | refine LOps.valA ?_ | refine LOps.outA ?_ | refine LOps.whenA ?_ | refine LOps.pickA ?_ | refine LOps.storeA ?_)
    refine LWp.cond rfl (fun h => ?_) (fun h => ?_)
    · have h : bs.length < p + 5 := by simp at h; omega
      rw [enR_bad hlt hcc h1 (by rw [e0]; exact numS_short 4 0 0 (p + 1) hp1 (by omega))]
      repeat (first | refine LOps.nil ?_ | refine andThen_normal ?_ | refine andThen_exit ?_ | refine andThen_ret ?_ | refine inBlock_normal ?_ | refine inBlock_ret ?_ | refine inBlock_here ?_ | refine inBlock_out rfl ?_ | refine LWp.seq ?_ | refine LWp.region ?_ | refine LWp.block ?_ | refine LWp.exit ?_ | refine LWp.ret ?_ | refine LWp.skip ?_ | refine LOps.valA ?_ | refine LOps.outA ?_ | refine LOps.whenA ?_ | refine LOps.pickA ?_ | refine LOps.storeA ?_)
      exact ⟨_, LRes.sh (LRes.many rfl rfl (.cons (.cell rfl (box_set _ _ _) (hP ▸ tok35) rfl) (.cons (.tmp _) .nil))), rfl, hJ.le.setBox hJ.s4 _⟩
    · have h : p + 5 ≤ bs.length := by simp at h; omega
      have e1 := num4 (bs := bs) (p := p + 1) (by omega)
      rw [e1] at e0
      rw [enR_ok hlt hcc h1 (by rw [e0]), e0]
      clear e0 e1
      repeat (first | refine LOps.nil ?_ | refine andThen_normal ?_ | refine andThen_exit ?_ | refine andThen_ret ?_ | refine inBlock_normal ?_ | refine inBlock_ret ?_ | refine inBlock_here ?_ | refine inBlock_out rfl ?_ | refine LWp.seq ?_ | refine LWp.region ?_ | refine LWp.block ?_ | refine LWp.exit ?_ | refine LWp.ret ?_ | refine LWp.skip ?_ | refine LOps.valA ?_ | refine LOps.outA ?_ | refine LOps.whenA ?_ | refine LOps.pickA ?_ | refine LOps.storeA ?_)
      have ev : hv bs (p + 1) 4 = (bs.getD (p + 1) default).toNat + 256 * ((bs.getD (p + 1 + 1) default).toNat + 256 * ((bs.getD (p + 1 + 2) default).toNat + 256 * (bs.getD (p + 1 + 3) default).toNat)) := by
        simp only [hv, show 3 - 3 = 0 from rfl, show 3 - 2 = 1 from rfl, show 3 - 1 = 2 from rfl, show 3 - 0 = 3 from rfl, Nat.add_zero]; omega
      rw [← ev]
      clear ev k4 k6
      refine LWp.loop (fun k T S' => ∃ (T' : Nat → TV) (j : Nat), j ≤ 4 ∧ k = 4 - j ∧ BtJ S S' b4 b6 (lzero ti35) (enW .nil ⟨6, (hv bs (p + 1) j : Nat), 0, noOp⟩) ∧ T = over T' [(0, .one (.sl .sh (bL bs))), (1, .one (iv ((p : Int) + 1))), (4, ptr b4), (6, ptr b6), (8, .one (iv (3 - (j : Int))))]) 4 ?_ ?_
      · exact ⟨_, 0, by omega, by omega, hJ, holds.over ⟨rfl, rfl, rfl, rfl, rfl, trivial⟩⟩
      clear hJ
      rintro k T S5 ⟨T', j, hj, rfl, hJ, rfl⟩
      have k6 : S5.box b6 = some (uv 6 :: iv ((hv bs (p + 1) j : Nat) : Int) :: iv 0 :: opW .nil noOp) := hJ.k6
      have k4 := hJ.k4
      repeat (first | refine LOps.nil ?_ | refine andThen_normal ?_ | refine andThen_exit ?_ | refine andThen_ret ?_ | refine inBlock_normal ?_ | refine inBlock_ret ?_ | refine inBlock_here ?_ | refine inBlock_out rfl ?_ | refine LWp.seq ?_ | refine LWp.region ?_ | refine LWp.block ?_ | refine LWp.exit ?_ | refine LWp.ret ?_ | refine LWp.skip ?_ | refine LOps.valA ?_ | refine LOps.outA ?_ | refine LOps.whenA ?_ | refine LOps.pickA ?_ | refine LOps.storeA ?_)
      refine LWp.cond rfl (fun h => ?_) (fun h => ?_)
      · have hj3 : j < 4 := by simp at h; omega
        have hv1 := hv_lt bs (p + 1) j hj
        have hv2 : 256 ^ j ≤ 16777216 := by
          rcases (by omega : j = 0 ∨ j = 1 ∨ j = 2 ∨ j = 3) with rfl | rfl | rfl | rfl <;> decide
        have hb := (bs.getD (p + 1 + (3 - j)) default).toNat_lt
        repeat (first | refine LOps.nil ?_ | refine andThen_normal ?_ | refine andThen_exit ?_ | refine andThen_ret ?_ | refine inBlock_normal ?_ | refine inBlock_ret ?_ | refine inBlock_here ?_ | refine inBlock_out rfl ?_ | refine LWp.seq ?_ | refine LWp.region ?_ | refine LWp.block ?_ | refine LWp.exit ?_ | refine LWp.ret ?_ | refine LWp.skip ?_ | refine LOps.valA ?_ | refine LOps.outA ?_ | refine LOps.whenA ?_ | refine LOps.pickA ?_ | refine LOps.storeA ?_)
        refine LWp.drawL [0, 1, 2, 3, 4, 5, 6, 7, 8, 9, 10, 11, 12] (by rw [hP]; rfl) rfl ?_
        repeat (first | refine LRl.valC (r := .one (iv ((p + 1 + (3 - j) : Nat) : Int))) (fun _ => LVal.to (LVal.add64 rfl rfl rfl (by omega)) (congrArg (fun z => TV.one (iv z)) (by omega))) ?_ | refine LRl.valC (fun _ => LVal.indexG (n := p + 1 + (3 - j)) (xs := bs) hD rfl rfl rfl rfl rfl rfl rfl (by omega) rfl) ?_ | refine LRl.nil ?_ | refine LRl.valA ?_ | refine LRl.outA ?_ | refine LRl.whenA ?_ | refine LRl.pickA ?_)
        refine LRl.act0 (LDo.store hD rfl rfl k6 rfl rfl rfl rfl) rfl rfl rfl (fun _ _ _ => .inr rfl) ?_
        rintro _ _ ⟨rfl, rfl⟩
        repeat (first | refine LRl.nil ?_ | refine LRl.valA ?_ | refine LRl.outA ?_ | refine LRl.whenA ?_ | refine LRl.pickA ?_)
        repeat (first | refine LOps.nil ?_ | refine andThen_normal ?_ | refine andThen_exit ?_ | refine andThen_ret ?_ | refine inBlock_normal ?_ | refine inBlock_ret ?_ | refine inBlock_here ?_ | refine inBlock_out rfl ?_ | refine LWp.seq ?_ | refine LWp.region ?_ | refine LWp.block ?_ | refine LWp.exit ?_ | refine LWp.ret ?_ | refine LWp.skip ?_ | refine LOps.valA ?_ | refine LOps.outA ?_ | refine LOps.whenA ?_ | refine LOps.pickA ?_ | refine LOps.storeA ?_)
        refine ⟨4 - (j + 1), by omega, _, j + 1, by omega, rfl, hJ.set (enW .nil ⟨6, (hv bs (p + 1) (j + 1) : Nat), 0, noOp⟩), holds.over ⟨rfl, rfl, rfl, rfl, congrArg (fun z => TV.one (iv z)) (by omega), trivial⟩⟩
      · have hj4 : j = 4 := by simp at h; omega
        subst hj4
        repeat (first | refine LOps.nil ?_ | refine andThen_normal ?_ | refine andThen_exit ?_ | refine andThen_ret ?_ | refine inBlock_normal ?_ | refine inBlock_ret ?_ | refine inBlock_here ?_ | refine inBlock_out rfl ?_ | refine LWp.seq ?_ | refine LWp.region ?_ | refine LWp.block ?_ | refine LWp.exit ?_ | refine LWp.ret ?_ | refine LWp.skip ?_ | refine LOps.valA ?_ | refine LOps.outA ?_ | refine LOps.whenA ?_ | refine LOps.pickA ?_ | refine LOps.storeA ?_)
        exact ⟨_, LRes.sh (LRes.many rfl rfl (.cons (.cell rfl (box_set _ _ _) (hP ▸ tok35) rfl) (.cons (.tmp _) .nil))), rfl, hJ.le.setBox hJ.s4 _⟩
  have h6 : ¬ c = 6 := by simp at h; omega
  rw [enR_bad hlt hcc h1 (by
    simp only [enS, byteS_here hlt, hcc]
    rw [if_neg h1, if_neg h2, if_neg h3, if_neg h4, if_neg h6])]
  repeat (first | refine LOps.nil ?_ | refine andThen_normal ?_ | refine andThen_exit ?_ | refine andThen_ret ?_ | refine inBlock_normal ?_ | refine inBlock_ret ?_ | refine inBlock_here ?_ | refine inBlock_out rfl ?_ | refine LWp.seq ?_ | refine LWp.region ?_ | refine LWp.block ?_ | refine LWp.exit ?_ | refine LWp.ret ?_ | refine LWp.skip ?_ | refine LOps.valA ?_ | refine LOps.outA ?_ | refine LOps.whenA ?_ | refine LOps.pickA ?_ | refine LOps.storeA ?_)
  exact ⟨_, LRes.sh (LRes.many rfl rfl (.cons (.cell rfl (box_set _ _ _) (hP ▸ tok35) rfl) (.cons (.tmp _) .nil))), rfl, hJ.le.setBox hJ.s4 _⟩
end Go.Proofs.Ytbifiagpmoakdaa.LF
