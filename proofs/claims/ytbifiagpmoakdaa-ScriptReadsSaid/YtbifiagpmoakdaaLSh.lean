/- The document's batch, op. -/
import Derived.Test.YtbifiagpmoakdaaLSg
set_option linter.unusedVariables false
set_option linter.unusedSimpArgs false
namespace Go.Proofs.Ytbifiagpmoakdaa.LF
open Go.RowKit

/-- What stands while a value is built up: the result's box, the value's box. -/
structure BtJ (S0 S : LS) (b4 b6 : Nat) (z x : List LV) : Prop where
  le : S0.le S
  k4 : S.box b4 = some z
  k6 : S.box b6 = some x
  n46 : b4 ≠ b6
  s4 : S0.box b4 = none
  s6 : S0.box b6 = none
theorem BtJ.set {S0 S : LS} {b4 b6 : Nat} {z x : List LV} (h : BtJ S0 S b4 b6 z x) (x' : List LV) : BtJ S0 (S.setBox b6 x') b4 b6 z x' :=
  ⟨h.le.setBox h.s6 _, (box_set_ne _ _ h.n46).trans h.k4, box_set _ _ _, h.n46, h.s4, h.s6⟩
theorem BtJ.new {S0 S : LS} {b4 b6 c : Nat} {z x : List LV} (h : BtJ S0 S b4 b6 z x) (hc : S.fresh c) (cs : List LV) : BtJ S0 (S.newBox c cs) b4 b6 z x :=
  ⟨h.le.newBox hc _, (box_new_ne _ _ (fresh_ne hc h.k4)).trans h.k4, (box_new_ne _ _ (fresh_ne hc h.k6)).trans h.k6, h.n46, h.s4, h.s6⟩
theorem BtJ.put {S0 S : LS} {b4 b6 c : Nat} {z x : List LV} (h : BtJ S0 S b4 b6 z x) (n4 : b4 ≠ c) (n6 : b6 ≠ c) (hc : S0.box c = none) (cs : List LV) : BtJ S0 (S.setBox c cs) b4 b6 z x :=
  ⟨h.le.setBox hc _, (box_set_ne _ _ n4).trans h.k4, (box_set_ne _ _ n6).trans h.k6, h.n46, h.s4, h.s6⟩
theorem BtJ.upto {S0 S S' : LS} {b4 b6 : Nat} {z x : List LV} {o : Own} (h : BtJ S0 S b4 b6 z x) (k : S.upto o S') (ho : Out S0 o) : BtJ S0 S' b4 b6 z x :=
  ⟨h.le.upto k ho, k.box _ _ h.k4, k.box _ _ h.k6, h.n46, h.s4, h.s6⟩

def batchR (bs : List UInt8) (p : Nat) : OpV × (Nat × Bool) :=
  let n := byteS bs (p, false)
  let w := writesR bs n.1 n.2
  ({ noOp with kind := 6, writes := w.1 }, w.2)

theorem writesR_bad {bs : List UInt8} (n p : Nat) : writesR bs n (p, true) = ([], (p, true)) := by
  cases n with
  | zero => rfl
  | succ n => simp [writesR]

set_option maxHeartbeats 8000000 in
theorem refBatch_F {G : Ctx} (hP : G.P = Try.prog) (bs : List UInt8) (hl : bs.length ≤ 1000000000) (p : Nat) (hp : p ≤ bs.length) :
    LFun G 35 [.one (.sl .sh (bL bs)), .one (iv (p : Nat))] (.tup [.agg (opL (batchR bs p).1), .one (iv (enc (batchR bs p).2))]) := LFun.of fun S => by
  have hD : TabOK G.P D := by rw [hP]; exact hD0
  have hml : (bL bs).length = bs.length := List.length_map ..
  refine LCalls.enter (fn := Try.f35) (by rw [hP]; exact Try.func35) rfl rfl ?_
  repeat (first | refine LOps.nil ?_ | refine andThen_normal ?_ | refine andThen_exit ?_ | refine andThen_ret ?_ | refine inBlock_normal ?_ | refine inBlock_ret ?_ | refine inBlock_here ?_ | refine inBlock_out rfl ?_ | refine LWp.seq ?_ | refine LWp.region ?_ | refine LWp.block ?_ | refine LWp.exit ?_ | refine LWp.ret ?_ | refine LWp.skip ?_ | refine LOps.valA ?_ | refine LOps.outA ?_ | refine LOps.whenA ?_ | refine LOps.pickA ?_ | refine LOps.storeA ?_)
  refine LOps.do (LDo.alloc hD rfl rfl rfl) rfl rfl rfl ?_
  rintro _ _ ⟨b4, hb4, rfl, rfl⟩
  repeat (first | refine LOps.nil ?_ | refine andThen_normal ?_ | refine andThen_exit ?_ | refine andThen_ret ?_ | refine inBlock_normal ?_ | refine inBlock_ret ?_ | refine inBlock_here ?_ | refine inBlock_out rfl ?_ | refine LWp.seq ?_ | refine LWp.region ?_ | refine LWp.block ?_ | refine LWp.exit ?_ | refine LWp.ret ?_ | refine LWp.skip ?_ | refine LOps.valA ?_ | refine LOps.outA ?_ | refine LOps.whenA ?_ | refine LOps.pickA ?_ | refine LOps.storeA ?_)
  refine LOps.do (LDo.alloc hD rfl rfl rfl) rfl rfl rfl ?_
  rintro _ _ ⟨b6, hb6, rfl, rfl⟩
  have n46 := fresh_ne hb6 (box_new S b4 _)
  have s6 := (LS.le.newBox (.refl S) hb4 _).none hb6
  repeat (first | refine LOps.gen (fun S1 => BtJ S S1 b4 b6 (lzero ti33) (opW .nil { noOp with kind := 6 })) ⟨((LS.le.newBox (.refl S) hb4 _).newBox hb6 _).setBox s6 _, (box_set_ne _ _ n46).trans ((box_new_ne _ _ n46).trans (box_new _ _ _)), box_set _ _ _, n46, hb4.box, s6⟩ ?_ | refine LOps.nil ?_ | refine andThen_normal ?_ | refine andThen_exit ?_ | refine andThen_ret ?_ | refine inBlock_normal ?_ | refine inBlock_ret ?_ | refine inBlock_here ?_ | refine inBlock_out rfl ?_ | refine LWp.seq ?_ | refine LWp.region ?_ | refine LWp.block ?_ | refine LWp.exit ?_ | refine LWp.ret ?_ | refine LWp.skip ?_ | refine LOps.valA ?_ | refine LOps.outA ?_ | refine LOps.whenA ?_ | refine LOps.pickA ?_ | refine LOps.storeA ?_)
  clear hb4 hb6 n46 s6
  intro S1 hJ
  have k6 := hJ.k6
  have k4 := hJ.k4
  repeat (first | refine LOps.nil ?_ | refine andThen_normal ?_ | refine andThen_exit ?_ | refine andThen_ret ?_ | refine inBlock_normal ?_ | refine inBlock_ret ?_ | refine inBlock_here ?_ | refine inBlock_out rfl ?_ | refine LWp.seq ?_ | refine LWp.region ?_ | refine LWp.block ?_ | refine LWp.exit ?_ | refine LWp.ret ?_ | refine LWp.skip ?_ | refine LOps.valA ?_ | refine LOps.outA ?_ | refine LOps.whenA ?_ | refine LOps.pickA ?_ | refine LOps.storeA ?_)
  refine LWp.cond rfl (fun h => ?_) (fun h => ?_)
  · have hge : bs.length ≤ p := by simpa using h
    repeat (first | refine LOps.nil ?_ | refine andThen_normal ?_ | refine andThen_exit ?_ | refine andThen_ret ?_ | refine inBlock_normal ?_ | refine inBlock_ret ?_ | refine inBlock_here ?_ | refine inBlock_out rfl ?_ | refine LWp.seq ?_ | refine LWp.region ?_ | refine LWp.block ?_ | refine LWp.exit ?_ | refine LWp.ret ?_ | refine LWp.skip ?_ | refine LOps.valA ?_ | refine LOps.outA ?_ | refine LOps.whenA ?_ | refine LOps.pickA ?_ | refine LOps.storeA ?_)
    refine ⟨_, LRes.sh (LRes.many rfl rfl (.cons (.cell rfl (box_set _ _ _) (hP ▸ tok33) rfl) (.cons (.tmp _) .nil))), ?_, hJ.le.setBox hJ.s4 _⟩
    simp only [batchR, byteS_end hge, writesR, enc]
    rfl
  have hlt : p < bs.length := by simpa using h
  have hc := bs[p].toNat_lt
  obtain ⟨n, hn⟩ : ∃ n, n = bs[p].toNat := ⟨_, rfl⟩
  repeat (first | refine LOps.val (r := .one (iv (n : Int))) (LVal.to (LVal.conv64 hD rfl rfl rfl rfl rfl (by omega)) (by rw [hn])) rfl rfl rfl ?_ | refine LOps.nil ?_ | refine andThen_normal ?_ | refine andThen_exit ?_ | refine andThen_ret ?_ | refine inBlock_normal ?_ | refine inBlock_ret ?_ | refine inBlock_here ?_ | refine inBlock_out rfl ?_ | refine LWp.seq ?_ | refine LWp.region ?_ | refine LWp.block ?_ | refine LWp.exit ?_ | refine LWp.ret ?_ | refine LWp.skip ?_ | refine LOps.valA ?_ | refine LOps.outA ?_ | refine LOps.whenA ?_ | refine LOps.pickA ?_ | refine LOps.storeA ?_)
  clear k4 k6
  have hbS : batchR bs p = ({ noOp with kind := 6, writes := (writesR bs n (p + 1, false)).1 }, (writesR bs n (p + 1, false)).2) := by
    simp only [batchR, byteS_here hlt, hn]
  rw [hbS]
  clear hbS
  have hn256 : n < 256 := by omega
  have hp1 : p + 1 ≤ bs.length := hlt
  refine LWp.loop (fun k T S' => ∃ (T' : Nat → TV) (j : Nat) (acc : List Wr) (o : Own) (s : Nat × Bool), j ≤ n ∧ k = n - j ∧ acc.length = j ∧ s.1 ≤ bs.length ∧ BtJ S S' b4 b6 (lzero ti33) (opW o { noOp with kind := 6, writes := acc }) ∧ Owned S' 51 acc.length o ∧ Out S o ∧
    writesR bs n (p + 1, false) = (acc ++ (writesR bs (n - j) s).1, (writesR bs (n - j) s).2) ∧ T = over T' [(0, .one (.sl .sh (bL bs))), (1, .one (iv (enc s))), (4, ptr b4), (6, ptr b6), (7, .one (iv (n : Nat))), (8, .one (iv (j : Nat)))]) n ?_ ?_
  · exact ⟨_, 0, [], .nil, (p + 1, false), by omega, by omega, rfl, hp1, hJ, rfl, .nil _, rfl, holds.over ⟨rfl, rfl, rfl, rfl, rfl, rfl, trivial⟩⟩
  clear hJ h hn hc
  clear hlt hp hp1 S1
  rintro k T S1 ⟨T', j, acc, o, s, hj, rfl, hacc, hs, hJ, own, hout, hw, rfl⟩
  have k6 := hJ.k6
  have k4 := hJ.k4
  repeat (first | refine LOps.nil ?_ | refine andThen_normal ?_ | refine andThen_exit ?_ | refine andThen_ret ?_ | refine inBlock_normal ?_ | refine inBlock_ret ?_ | refine inBlock_here ?_ | refine inBlock_out rfl ?_ | refine LWp.seq ?_ | refine LWp.region ?_ | refine LWp.block ?_ | refine LWp.exit ?_ | refine LWp.ret ?_ | refine LWp.skip ?_ | refine LOps.valA ?_ | refine LOps.outA ?_ | refine LOps.whenA ?_ | refine LOps.pickA ?_ | refine LOps.storeA ?_)
  refine LWp.cond rfl (fun h => ?_) (fun h => ?_)
  · have h : (decide ((j : Int) < (n : Int)) && decide (enc s ≥ 0)) = true := h
    rw [enc_nonneg] at h
    simp at h
    obtain ⟨hlt, hbad⟩ := h
    obtain ⟨q, d⟩ := s
    have hbad : d = false := hbad
    subst hbad
    have hs1 := textS_at (bs := bs) hs
    repeat (first | refine LOps.nil ?_ | refine andThen_normal ?_ | refine andThen_exit ?_ | refine andThen_ret ?_ | refine inBlock_normal ?_ | refine inBlock_ret ?_ | refine inBlock_here ?_ | refine inBlock_out rfl ?_ | refine LWp.seq ?_ | refine LWp.region ?_ | refine LWp.block ?_ | refine LWp.exit ?_ | refine LWp.ret ?_ | refine LWp.skip ?_ | refine LOps.valA ?_ | refine LOps.outA ?_ | refine LOps.whenA ?_ | refine LOps.pickA ?_ | refine LOps.storeA ?_)
    refine LOps.do (LDo.alloc hD rfl rfl rfl) rfl rfl rfl ?_
    rintro _ _ ⟨b9, hb9, rfl, rfl⟩
    have m4 := fresh_ne hb9 hJ.k4
    have m6 := fresh_ne hb9 hJ.k6
    have s9 := hJ.le.none hb9
    obtain ⟨t, s1, e1⟩ : ∃ t s1, textS bs (q, false) = (t, s1) := ⟨_, _, rfl⟩
    obtain ⟨g, s2, e2⟩ : ∃ g s2, markS bs s1 = (g, s2) := ⟨_, _, rfl⟩
    have c1 := refText_F hP bs hl (q, false) hs
    rw [e1] at c1 hs1
    have hs1 : s1.1 ≤ bs.length := hs1
    have c2 := refMark_F hP bs hl s1 hs1
    have hs2 := markS_at (bs := bs) hs1
    rw [e2] at c2 hs2
    have hs2 : s2.1 ≤ bs.length := hs2
    have c3 := refText_F hP bs hl s2 hs2
    have hs3 := textS_at (bs := bs) hs2
    repeat (first | refine LWp.seq (LWp.cut 12 (fun T' S' => ∃ (v : ByteArray) (s3 : Nat × Bool) (T'' : Nat → TV), (if g || s2.2 then (noBytes, s2) else textS bs s2) = (v, s3) ∧ s3.1 ≤ bs.length ∧ BtJ S S' b4 b6 (lzero ti33) (opW o { noOp with kind := 6, writes := acc }) ∧ Owned S' 51 acc.length o ∧ S'.box b9 = some (wrL ⟨t, v, g⟩) ∧ T' = over T'' [(0, .one (.sl .sh (bL bs))), (1, .one (iv (enc s3))), (4, ptr b4), (6, ptr b6), (7, .one (iv (n : Nat))), (8, .one (iv (j : Nat))), (9, ptr b9)]) rfl ?_ ?_) | refine LOps.nil ?_ | refine andThen_normal ?_ | refine andThen_exit ?_ | refine andThen_ret ?_ | refine inBlock_normal ?_ | refine inBlock_ret ?_ | refine inBlock_here ?_ | refine inBlock_out rfl ?_ | refine LWp.seq ?_ | refine LWp.region ?_ | refine LWp.block ?_ | refine LWp.exit ?_ | refine LWp.ret ?_ | refine LWp.skip ?_ | refine LOps.val (LVal.call rfl rfl (by rw [hP]; exact Try.func36) rfl (by decide) (c1)) rfl rfl rfl ?_ | refine LOps.val (LVal.call rfl rfl (by rw [hP]; exact Try.func37) rfl (by decide) (c2)) rfl rfl rfl ?_ | refine LOps.whenC (LVal.call rfl rfl (by rw [hP]; exact Try.func36) rfl (by decide) (c1)) ?_ | refine LOps.whenC (LVal.call rfl rfl (by rw [hP]; exact Try.func37) rfl (by decide) (c2)) ?_ | refine LOps.valA ?_ | refine LOps.outA ?_ | refine LOps.whenA ?_ | refine LOps.pickA ?_ | refine LOps.storeA ?_)
    · have hJ := ((hJ.new hb9 (lzero ti51)).put m4 m6 s9 (wrL ⟨t, noBytes, false⟩)).put m4 m6 s9 (wrL ⟨t, noBytes, g⟩)
      have own : Owned (((S1.newBox b9 (lzero ti51)).setBox b9 (wrL ⟨t, noBytes, false⟩)).setBox b9 (wrL ⟨t, noBytes, g⟩)) 51 acc.length o := own
      repeat (first | refine LOps.nil ?_ | refine andThen_normal ?_ | refine andThen_exit ?_ | refine andThen_ret ?_ | refine inBlock_normal ?_ | refine inBlock_ret ?_ | refine inBlock_here ?_ | refine inBlock_out rfl ?_ | refine LWp.seq ?_ | refine LWp.region ?_ | refine LWp.block ?_ | refine LWp.exit ?_ | refine LWp.ret ?_ | refine LWp.skip ?_ | refine LOps.valA ?_ | refine LOps.outA ?_ | refine LOps.whenA ?_ | refine LOps.pickA ?_ | refine LOps.storeA ?_)
      refine LWp.cond rfl (fun h => ?_) (fun h => ?_)
      · have h : (decide (enc s2 ≥ 0) && !g) = true := h
        rw [enc_nonneg] at h
        have hz : (if g || s2.2 then (noBytes, s2) else textS bs s2) = textS bs s2 := by
          rw [if_neg]; simp at h ⊢; exact ⟨h.2, h.1⟩
        repeat (first | refine LOps.nil ?_ | refine andThen_normal ?_ | refine andThen_exit ?_ | refine andThen_ret ?_ | refine inBlock_normal ?_ | refine inBlock_ret ?_ | refine inBlock_here ?_ | refine inBlock_out rfl ?_ | refine LWp.seq ?_ | refine LWp.region ?_ | refine LWp.block ?_ | refine LWp.exit ?_ | refine LWp.ret ?_ | refine LWp.skip ?_ | refine LOps.val (LVal.call rfl rfl (by rw [hP]; exact Try.func36) rfl (by decide) (c3)) rfl rfl rfl ?_ | refine LOps.whenC (LVal.call rfl rfl (by rw [hP]; exact Try.func36) rfl (by decide) (c3)) ?_ | refine LOps.valA ?_ | refine LOps.outA ?_ | refine LOps.whenA ?_ | refine LOps.pickA ?_ | refine LOps.storeA ?_)
        exact ⟨_, _, _, hz, hs3, hJ.put m4 m6 s9 _, own, box_set _ _ _, holds.over ⟨rfl, rfl, rfl, rfl, rfl, rfl, rfl, trivial⟩⟩
      · have h : (decide (enc s2 ≥ 0) && !g) = false := h
        rw [enc_nonneg] at h
        have hz : (if g || s2.2 then (noBytes, s2) else textS bs s2) = (noBytes, s2) := by
          rw [if_pos]
          cases g
          · simpa using h
          · rfl
        repeat (first | refine LOps.nil ?_ | refine andThen_normal ?_ | refine andThen_exit ?_ | refine andThen_ret ?_ | refine inBlock_normal ?_ | refine inBlock_ret ?_ | refine inBlock_here ?_ | refine inBlock_out rfl ?_ | refine LWp.seq ?_ | refine LWp.region ?_ | refine LWp.block ?_ | refine LWp.exit ?_ | refine LWp.ret ?_ | refine LWp.skip ?_ | refine LOps.valA ?_ | refine LOps.outA ?_ | refine LOps.whenA ?_ | refine LOps.pickA ?_ | refine LOps.storeA ?_)
        exact ⟨_, _, _, hz, hs2, hJ, own, box_set _ _ _, holds.over ⟨rfl, rfl, rfl, rfl, rfl, rfl, rfl, trivial⟩⟩
    clear hJ own k4 k6
    rintro T S9 ⟨v, s3, T'', e3, hs3, hJ, own, k9, rfl⟩
    have k6 := hJ.k6
    repeat (first | refine LOps.nil ?_ | refine andThen_normal ?_ | refine andThen_exit ?_ | refine andThen_ret ?_ | refine inBlock_normal ?_ | refine inBlock_ret ?_ | refine inBlock_here ?_ | refine inBlock_out rfl ?_ | refine LWp.seq ?_ | refine LWp.region ?_ | refine LWp.block ?_ | refine LWp.exit ?_ | refine LWp.ret ?_ | refine LWp.skip ?_ | refine LOps.valA ?_ | refine LOps.outA ?_ | refine LOps.whenA ?_ | refine LOps.pickA ?_ | refine LOps.storeA ?_)
    refine LOps.do (LDo.push hD rfl rfl rfl rfl rfl rfl rfl rfl rfl rfl (show _ = acc.length by simp) own (by omega)) rfl rfl rfl ?_
    rintro _ S11 ⟨o3, rfl, own3, hup, hno⟩
    have hJ2 := hJ.upto hup hout
    have k6 := hJ2.k6
    repeat (first | refine LOps.nil ?_ | refine andThen_normal ?_ | refine andThen_exit ?_ | refine andThen_ret ?_ | refine inBlock_normal ?_ | refine inBlock_ret ?_ | refine inBlock_here ?_ | refine inBlock_out rfl ?_ | refine LWp.seq ?_ | refine LWp.region ?_ | refine LWp.block ?_ | refine LWp.exit ?_ | refine LWp.ret ?_ | refine LWp.skip ?_ | refine LOps.valA ?_ | refine LOps.outA ?_ | refine LOps.whenA ?_ | refine LOps.pickA ?_ | refine LOps.storeA ?_)
    refine ⟨n - (j + 1), by omega, _, j + 1, acc ++ [⟨t, v, g⟩], o3, s3, by omega, rfl, by simp [hacc], hs3, ?_, own3.ofN (by simp), ?_, ?_, holds.over ⟨rfl, rfl, rfl, rfl, rfl, rfl, trivial⟩⟩
    · have e : opW o3 { noOp with kind := 6, writes := acc ++ [⟨t, v, g⟩] } = [uv 6, sv noBytes, sv noBytes, sv noBytes, bv false, bv false, .sl o3 (acc.map wrL ++ [wrL ⟨t, v, g⟩])] := by
        simp only [opW, List.map_append]; rfl
      rw [e]
      exact hJ2.set _
    · exact hout.next hJ.le hno
    · rw [hw, show n - j = (n - (j + 1)) + 1 by omega]
      simp only [writesR, e1, e2, e3, Bool.false_eq_true, if_false, List.append_assoc, List.cons_append, List.nil_append]
  · have h : (decide ((j : Int) < (n : Int)) && decide (enc s ≥ 0)) = false := h
    rw [enc_nonneg] at h
    have hz : writesR bs (n - j) s = ([], s) := by
      obtain ⟨q, d⟩ := s
      cases d with
      | true => exact writesR_bad _ _
      | false =>
        have : n - j = 0 := by simp at h; omega
        rw [this]; rfl
    rw [hz, List.append_nil] at hw
    rw [hw]
    repeat (first | refine LOps.nil ?_ | refine andThen_normal ?_ | refine andThen_exit ?_ | refine andThen_ret ?_ | refine inBlock_normal ?_ | refine inBlock_ret ?_ | refine inBlock_here ?_ | refine inBlock_out rfl ?_ | refine LWp.seq ?_ | refine LWp.region ?_ | refine LWp.block ?_ | refine LWp.exit ?_ | refine LWp.ret ?_ | refine LWp.skip ?_ | refine LOps.valA ?_ | refine LOps.outA ?_ | refine LOps.whenA ?_ | refine LOps.pickA ?_ | refine LOps.storeA ?_)
    exact ⟨_, LRes.sh (LRes.many rfl rfl (.cons (.cell rfl (box_set _ _ _) (hP ▸ tok33) rfl) (.cons (.tmp _) .nil))), rfl, hJ.le.setBox hJ.s4 _⟩
end Go.Proofs.Ytbifiagpmoakdaa.LF
