/- The document's op. -/
import Derived.Test.YtbifiagpmoakdaaLSh
set_option linter.unusedVariables false
set_option linter.unusedSimpArgs false
namespace Go.Proofs.Ytbifiagpmoakdaa.LF
open Go.RowKit

def opR (bs : List UInt8) (p : Nat) : OpV × (Nat × Bool) :=
  if p < bs.length ∧ 1 ≤ (bs.getD p default).toNat ∧ (bs.getD p default).toNat ≤ 6 then
    if (bs.getD p default).toNat = 6 then batchR bs (p + 1) else opS bs (p, false)
  else (noOp, (p, true))

theorem LRes.opAt {G : Ctx} (hP : G.P = Try.prog) {T : Nat → TV} {S S0 : LS} {b4 b6 n : Nat} {fn : Func} {x : OpV} {k : Tmp} (hf : fn.results = #[.cell 4 33, .tmp k]) (hT : T 4 = ptr b4) (h4 : S.box b4 = some (opL x)) : LRes G n fn T S (.tup [.agg (opL x), shTV (T k)]) :=
  LRes.sh (LRes.many (vs := [.cell 4 33, .tmp k]) hf rfl (.cons (.cell hT h4 (hP ▸ tok33) rfl) (.cons (.tmp _) .nil)))

set_option maxHeartbeats 16000000 in
theorem refOp_F {G : Ctx} (hP : G.P = Try.prog) (bs : List UInt8) (hl : bs.length ≤ 1000000000) (p : Nat) (hp : p ≤ bs.length) :
    LFun G 27 [.one (.sl .sh (bL bs)), .one (iv (p : Nat))] (.tup [.agg (opL (opR bs p).1), .one (iv (enc (opR bs p).2))]) := LFun.of fun S => by
  have hD : TabOK G.P D := by rw [hP]; exact hD0
  have hml : (bL bs).length = bs.length := List.length_map ..
  have hc := (bs.getD p default).toNat_lt
  refine LCalls.enter (fn := Try.f27) (by rw [hP]; exact Try.func27) rfl rfl ?_
  repeat (first | refine LOps.nil ?_ | refine andThen_normal ?_ | refine andThen_exit ?_ | refine andThen_ret ?_ | refine inBlock_normal ?_ | refine inBlock_ret ?_ | refine inBlock_here ?_ | refine inBlock_out rfl ?_ | refine LWp.seq ?_ | refine LWp.region ?_ | refine LWp.block ?_ | refine LWp.exit ?_ | refine LWp.ret ?_ | refine LWp.skip ?_ | refine LOps.valA ?_ | refine LOps.outA ?_ | refine LOps.whenA ?_ | refine LOps.pickA ?_ | refine LOps.storeA ?_)
  refine LOps.do (LDo.alloc hD rfl rfl rfl) rfl rfl rfl ?_
  rintro _ _ ⟨b4, hb4, rfl, rfl⟩
  repeat (first | refine LOps.nil ?_ | refine andThen_normal ?_ | refine andThen_exit ?_ | refine andThen_ret ?_ | refine inBlock_normal ?_ | refine inBlock_ret ?_ | refine inBlock_here ?_ | refine inBlock_out rfl ?_ | refine LWp.seq ?_ | refine LWp.region ?_ | refine LWp.block ?_ | refine LWp.exit ?_ | refine LWp.ret ?_ | refine LWp.skip ?_ | refine LOps.valA ?_ | refine LOps.outA ?_ | refine LOps.whenA ?_ | refine LOps.pickA ?_ | refine LOps.storeA ?_)
  refine LOps.do (LDo.alloc hD rfl rfl rfl) rfl rfl rfl ?_
  rintro _ _ ⟨b6, hb6, rfl, rfl⟩
  have n46 := fresh_ne hb6 (box_new S b4 (lzero ti33))
  have s6 := (LS.le.newBox (.refl S) hb4 (lzero ti33)).none hb6
  repeat (first | refine LOps.gen (fun S1 => BtJ S S1 b4 b6 (lzero ti33) (lzero ti33)) ⟨((LS.le.newBox (.refl S) hb4 _).newBox hb6 _), ((box_new_ne _ _ n46).trans (box_new _ _ _)), box_new _ _ _, n46, hb4.box, s6⟩ ?_ | refine LOps.nil ?_ | refine andThen_normal ?_ | refine andThen_exit ?_ | refine andThen_ret ?_ | refine inBlock_normal ?_ | refine inBlock_ret ?_ | refine inBlock_here ?_ | refine inBlock_out rfl ?_ | refine LWp.seq ?_ | refine LWp.region ?_ | refine LWp.block ?_ | refine LWp.exit ?_ | refine LWp.ret ?_ | refine LWp.skip ?_ | refine LOps.valA ?_ | refine LOps.outA ?_ | refine LOps.whenA ?_ | refine LOps.pickA ?_ | refine LOps.storeA ?_)
  clear hb4 hb6 n46 s6
  intro S1 hJ
  have k6 := hJ.k6
  have k4 := hJ.k4
  repeat (first | refine LOps.nil ?_ | refine andThen_normal ?_ | refine andThen_exit ?_ | refine andThen_ret ?_ | refine inBlock_normal ?_ | refine inBlock_ret ?_ | refine inBlock_here ?_ | refine inBlock_out rfl ?_ | refine LWp.seq ?_ | refine LWp.region ?_ | refine LWp.block ?_ | refine LWp.exit ?_ | refine LWp.ret ?_ | refine LWp.skip ?_ | refine LOps.valA ?_ | refine LOps.outA ?_ | refine LOps.whenA ?_ | refine LOps.pickA ?_ | refine LOps.storeA ?_)
  refine LWp.cond rfl (fun h => ?_) (fun h => ?_)
  · have h : ((decide ((p : Int) ≥ ((bL bs).length : Int)) || decide (((bs.getD p default).toNat : Int) < 1)) || decide (((bs.getD p default).toNat : Int) > 6)) = true := h
    rw [hml] at h
    have hz : opR bs p = (noOp, (p, true)) := by
      unfold opR
      rw [if_neg]
      simp only [Bool.or_eq_true, decide_eq_true_eq] at h
      omega
    rw [hz]
    repeat (first | refine LOps.nil ?_ | refine andThen_normal ?_ | refine andThen_exit ?_ | refine andThen_ret ?_ | refine inBlock_normal ?_ | refine inBlock_ret ?_ | refine inBlock_here ?_ | refine inBlock_out rfl ?_ | refine LWp.seq ?_ | refine LWp.region ?_ | refine LWp.block ?_ | refine LWp.exit ?_ | refine LWp.ret ?_ | refine LWp.skip ?_ | refine LOps.valA ?_ | refine LOps.outA ?_ | refine LOps.whenA ?_ | refine LOps.pickA ?_ | refine LOps.storeA ?_)
    exact ⟨_, LRes.sh (LRes.many rfl rfl (.cons (.cell rfl (box_set _ _ _) (hP ▸ tok33) rfl) (.cons (.tmp _) .nil))), rfl, hJ.le.setBox hJ.s4 _⟩
  have h : ((decide ((p : Int) ≥ ((bL bs).length : Int)) || decide (((bs.getD p default).toNat : Int) < 1)) || decide (((bs.getD p default).toNat : Int) > 6)) = false := h
  rw [hml] at h
  simp only [Bool.or_eq_false_iff, decide_eq_false_iff_not] at h
  obtain ⟨⟨h1, h2⟩, h3⟩ := h
  have hlt : p < bs.length := by omega
  have e0 : opR bs p = if (bs.getD p default).toNat = 6 then batchR bs (p + 1) else opS bs (p, false) := by
    unfold opR
    rw [if_pos ⟨hlt, by omega, by omega⟩]
  rw [e0]
  clear e0
  rw [getD_here hlt] at hc h2 h3 ⊢
  obtain ⟨c, hcc⟩ : ∃ c, bs[p].toNat = c := ⟨_, rfl⟩
  have hp1 : p + 1 ≤ bs.length := hlt
  repeat (first | refine LOps.nil ?_ | refine andThen_normal ?_ | refine andThen_exit ?_ | refine andThen_ret ?_ | refine inBlock_normal ?_ | refine inBlock_ret ?_ | refine inBlock_here ?_ | refine inBlock_out rfl ?_ | refine LWp.seq ?_ | refine LWp.region ?_ | refine LWp.block ?_ | refine LWp.exit ?_ | refine LWp.ret ?_ | refine LWp.skip ?_ | refine LOps.valA ?_ | refine LOps.outA ?_ | refine LOps.whenA ?_ | refine LOps.pickA ?_ | refine LOps.storeA ?_)
  refine LWp.cond rfl (fun h => ?_) (fun h => ?_)
  · have h : ((bs[p].toNat : Int) == 6) = true := h
    have h6 : bs[p].toNat = 6 := by simp at h; omega
    rw [if_pos h6]
    have n46 := hJ.n46
    repeat (first | refine LOps.nil ?_ | refine andThen_normal ?_ | refine andThen_exit ?_ | refine andThen_ret ?_ | refine inBlock_normal ?_ | refine inBlock_ret ?_ | refine inBlock_here ?_ | refine inBlock_out rfl ?_ | refine LWp.seq ?_ | refine LWp.region ?_ | refine LWp.block ?_ | refine LWp.exit ?_ | refine LWp.ret ?_ | refine LWp.skip ?_ | refine LOps.val (LVal.call rfl rfl (by rw [hP]; exact Try.func35) rfl (by decide) (refBatch_F hP bs hl (p + 1) hp1)) rfl rfl rfl ?_ | refine LOps.whenC (LVal.call rfl rfl (by rw [hP]; exact Try.func35) rfl (by decide) (refBatch_F hP bs hl (p + 1) hp1)) ?_ | refine LOps.valA ?_ | refine LOps.outA ?_ | refine LOps.whenA ?_ | refine LOps.pickA ?_ | refine LOps.storeA ?_)
    exact ⟨_, LRes.sh (LRes.many rfl rfl (.cons (.cell rfl (box_set _ _ _) (hP ▸ tok33) rfl) (.cons (.tmp _) .nil))), rfl, (hJ.set _).le.setBox hJ.s4 _⟩
  have h : ((bs[p].toNat : Int) == 6) = false := h
  have h6 : ¬ c = 6 := by simp at h; omega
  rw [if_neg (by rw [hcc]; exact h6)]
  clear h
  refine LWp.gen (fun S1 => BtJ S S1 b4 b6 (lzero ti33) (opW .nil { noOp with kind := c })) ?_ ?_
  · have := hJ.set (opW .nil { noOp with kind := (bs[p].toNat : Nat) })
    rw [← hcc]
    exact this
  clear hJ k4 k6 hc
  clear S1
  intro S1 hJ
  have k6 := hJ.k6
  have k4 := hJ.k4
  have n46 := hJ.n46
  rw [hcc] at h2 h3
  obtain ⟨t, s1, e1⟩ : ∃ t s1, textS bs (p + 1, false) = (t, s1) := ⟨_, _, rfl⟩
  obtain ⟨u, s2, e2⟩ : ∃ u s2, textS bs s1 = (u, s2) := ⟨_, _, rfl⟩
  obtain ⟨g, s3, e3⟩ : ∃ g s3, markS bs s2 = (g, s3) := ⟨_, _, rfl⟩
  obtain ⟨v, s4, e4⟩ : ∃ v s4, textS bs s3 = (v, s4) := ⟨_, _, rfl⟩
  obtain ⟨f, s5, e5⟩ : ∃ f s5, markS bs s1 = (f, s5) := ⟨_, _, rfl⟩
  have c1 := refText_F hP bs hl (p + 1, false) hp1
  have hs1 := textS_at (bs := bs) (s := (p + 1, false)) hp1
  rw [e1] at c1 hs1
  have hs1 : s1.1 ≤ bs.length := hs1
  have c2 := refText_F hP bs hl s1 hs1
  have hs2 := textS_at (bs := bs) hs1
  rw [e2] at c2 hs2
  have hs2 : s2.1 ≤ bs.length := hs2
  have c3 := refMark_F hP bs hl s2 hs2
  have hs3 := markS_at (bs := bs) hs2
  rw [e3] at c3 hs3
  have hs3 : s3.1 ≤ bs.length := hs3
  have c4 := refText_F hP bs hl s3 hs3
  rw [e4] at c4
  have c5 := refMark_F hP bs hl s1 hs1
  rw [e5] at c5
  rcases (by omega : c = 1 ∨ c = 2 ∨ c = 3 ∨ c = 4 ∨ c = 5) with rfl | rfl | rfl | rfl | rfl
  · have hz : opS bs (p, false) = ({ noOp with kind := (1 : Nat), key := t }, s1) := by
      simp only [opS, byteS_here hlt, hcc, e1]; rfl
    rw [hz]
    repeat (first | refine LWp.condF rfl ?_ | refine LWp.condT rfl ?_ | refine LOps.nil ?_ | refine andThen_normal ?_ | refine andThen_exit ?_ | refine andThen_ret ?_ | refine inBlock_normal ?_ | refine inBlock_ret ?_ | refine inBlock_here ?_ | refine inBlock_out rfl ?_ | refine LWp.seq ?_ | refine LWp.region ?_ | refine LWp.block ?_ | refine LWp.exit ?_ | refine LWp.ret ?_ | refine LWp.skip ?_ | refine LOps.val (LVal.call rfl rfl (by rw [hP]; exact Try.func36) rfl (by decide) (c1)) rfl rfl rfl ?_ | refine LOps.whenC (LVal.call rfl rfl (by rw [hP]; exact Try.func36) rfl (by decide) (c1)) ?_ | refine LOps.valA ?_ | refine LOps.outA ?_ | refine LOps.whenA ?_ | refine LOps.pickA ?_ | refine LOps.storeA ?_)
    exact ⟨_, LRes.sh (LRes.many rfl rfl (.cons (.cell rfl (box_set _ _ _) (hP ▸ tok33) rfl) (.cons (.tmp _) .nil))), rfl, (hJ.set _).le.setBox hJ.s4 _⟩
  · have hz : opS bs (p, false) = ({ noOp with kind := (2 : Nat), key := t, val := u }, s2) := by
      simp only [opS, byteS_here hlt, hcc, e1, e2]; rfl
    rw [hz]
    repeat (first | refine LWp.condF rfl ?_ | refine LWp.condT rfl ?_ | refine LOps.nil ?_ | refine andThen_normal ?_ | refine andThen_exit ?_ | refine andThen_ret ?_ | refine inBlock_normal ?_ | refine inBlock_ret ?_ | refine inBlock_here ?_ | refine inBlock_out rfl ?_ | refine LWp.seq ?_ | refine LWp.region ?_ | refine LWp.block ?_ | refine LWp.exit ?_ | refine LWp.ret ?_ | refine LWp.skip ?_ | refine LOps.val (LVal.call rfl rfl (by rw [hP]; exact Try.func36) rfl (by decide) (c1)) rfl rfl rfl ?_ | refine LOps.val (LVal.call rfl rfl (by rw [hP]; exact Try.func36) rfl (by decide) (c2)) rfl rfl rfl ?_ | refine LOps.whenC (LVal.call rfl rfl (by rw [hP]; exact Try.func36) rfl (by decide) (c1)) ?_ | refine LOps.whenC (LVal.call rfl rfl (by rw [hP]; exact Try.func36) rfl (by decide) (c2)) ?_ | refine LOps.valA ?_ | refine LOps.outA ?_ | refine LOps.whenA ?_ | refine LOps.pickA ?_ | refine LOps.storeA ?_)
    exact ⟨_, LRes.sh (LRes.many rfl rfl (.cons (.cell rfl (box_set _ _ _) (hP ▸ tok33) rfl) (.cons (.tmp _) .nil))), rfl, ((hJ.set _).set _).le.setBox hJ.s4 _⟩
  · have hz : opS bs (p, false) = ({ noOp with kind := (3 : Nat), key := t }, s1) := by
      simp only [opS, byteS_here hlt, hcc, e1]; rfl
    rw [hz]
    repeat (first | refine LWp.condF rfl ?_ | refine LWp.condT rfl ?_ | refine LOps.nil ?_ | refine andThen_normal ?_ | refine andThen_exit ?_ | refine andThen_ret ?_ | refine inBlock_normal ?_ | refine inBlock_ret ?_ | refine inBlock_here ?_ | refine inBlock_out rfl ?_ | refine LWp.seq ?_ | refine LWp.region ?_ | refine LWp.block ?_ | refine LWp.exit ?_ | refine LWp.ret ?_ | refine LWp.skip ?_ | refine LOps.val (LVal.call rfl rfl (by rw [hP]; exact Try.func36) rfl (by decide) (c1)) rfl rfl rfl ?_ | refine LOps.whenC (LVal.call rfl rfl (by rw [hP]; exact Try.func36) rfl (by decide) (c1)) ?_ | refine LOps.valA ?_ | refine LOps.outA ?_ | refine LOps.whenA ?_ | refine LOps.pickA ?_ | refine LOps.storeA ?_)
    exact ⟨_, LRes.sh (LRes.many rfl rfl (.cons (.cell rfl (box_set _ _ _) (hP ▸ tok33) rfl) (.cons (.tmp _) .nil))), rfl, (hJ.set _).le.setBox hJ.s4 _⟩
  · cases g with
    | true =>
      have ht := markS_true (bs := bs) (s := s2)
      rw [e3] at ht
      have ht : s3.2 = false := ht rfl
      have hz : opS bs (p, false) = ({ noOp with kind := (4 : Nat), key := t, val := u, had := true, old := v }, s4) := by
        simp only [opS, byteS_here hlt, hcc, e1, e2, e3, e4]; rfl
      rw [hz]
      repeat (first | refine LWp.condF rfl ?_ | refine LWp.condT rfl ?_ | refine LOps.nil ?_ | refine andThen_normal ?_ | refine andThen_exit ?_ | refine andThen_ret ?_ | refine inBlock_normal ?_ | refine inBlock_ret ?_ | refine inBlock_here ?_ | refine inBlock_out rfl ?_ | refine LWp.seq ?_ | refine LWp.region ?_ | refine LWp.block ?_ | refine LWp.exit ?_ | refine LWp.ret ?_ | refine LWp.skip ?_ | refine LOps.val (LVal.call rfl rfl (by rw [hP]; exact Try.func36) rfl (by decide) (c1)) rfl rfl rfl ?_ | refine LOps.val (LVal.call rfl rfl (by rw [hP]; exact Try.func36) rfl (by decide) (c2)) rfl rfl rfl ?_ | refine LOps.val (LVal.call rfl rfl (by rw [hP]; exact Try.func37) rfl (by decide) (c3)) rfl rfl rfl ?_ | refine LOps.whenC (LVal.call rfl rfl (by rw [hP]; exact Try.func36) rfl (by decide) (c1)) ?_ | refine LOps.whenC (LVal.call rfl rfl (by rw [hP]; exact Try.func36) rfl (by decide) (c2)) ?_ | refine LOps.whenC (LVal.call rfl rfl (by rw [hP]; exact Try.func37) rfl (by decide) (c3)) ?_ | refine LOps.valA ?_ | refine LOps.outA ?_ | refine LOps.whenA ?_ | refine LOps.pickA ?_ | refine LOps.storeA ?_)
      refine LWp.cond rfl (fun h => ?_) (fun h => ?_)
      · repeat (first | refine LWp.condF rfl ?_ | refine LWp.condT rfl ?_ | refine LOps.nil ?_ | refine andThen_normal ?_ | refine andThen_exit ?_ | refine andThen_ret ?_ | refine inBlock_normal ?_ | refine inBlock_ret ?_ | refine inBlock_here ?_ | refine inBlock_out rfl ?_ | refine LWp.seq ?_ | refine LWp.region ?_ | refine LWp.block ?_ | refine LWp.exit ?_ | refine LWp.ret ?_ | refine LWp.skip ?_ | refine LOps.val (LVal.call rfl rfl (by rw [hP]; exact Try.func36) rfl (by decide) (c4)) rfl rfl rfl ?_ | refine LOps.whenC (LVal.call rfl rfl (by rw [hP]; exact Try.func36) rfl (by decide) (c4)) ?_ | refine LOps.valA ?_ | refine LOps.outA ?_ | refine LOps.whenA ?_ | refine LOps.pickA ?_ | refine LOps.storeA ?_)
        exact ⟨_, LRes.sh (LRes.many rfl rfl (.cons (.cell rfl (box_set _ _ _) (hP ▸ tok33) rfl) (.cons (.tmp _) .nil))), rfl, ((((hJ.set _).set _).set _).set _).le.setBox hJ.s4 _⟩
      · have h : (decide (enc s3 ≥ 0) && true) = false := h
        rw [enc_nonneg, ht] at h
        cases h
    | false =>
      have hz : opS bs (p, false) = ({ noOp with kind := (4 : Nat), key := t, val := u }, s3) := by
        simp only [opS, byteS_here hlt, hcc, e1, e2, e3]; rfl
      rw [hz]
      repeat (first | refine LWp.condF rfl ?_ | refine LWp.condT rfl ?_ | refine LOps.nil ?_ | refine andThen_normal ?_ | refine andThen_exit ?_ | refine andThen_ret ?_ | refine inBlock_normal ?_ | refine inBlock_ret ?_ | refine inBlock_here ?_ | refine inBlock_out rfl ?_ | refine LWp.seq ?_ | refine LWp.region ?_ | refine LWp.block ?_ | refine LWp.exit ?_ | refine LWp.ret ?_ | refine LWp.skip ?_ | refine LOps.val (LVal.call rfl rfl (by rw [hP]; exact Try.func36) rfl (by decide) (c1)) rfl rfl rfl ?_ | refine LOps.val (LVal.call rfl rfl (by rw [hP]; exact Try.func36) rfl (by decide) (c2)) rfl rfl rfl ?_ | refine LOps.val (LVal.call rfl rfl (by rw [hP]; exact Try.func37) rfl (by decide) (c3)) rfl rfl rfl ?_ | refine LOps.whenC (LVal.call rfl rfl (by rw [hP]; exact Try.func36) rfl (by decide) (c1)) ?_ | refine LOps.whenC (LVal.call rfl rfl (by rw [hP]; exact Try.func36) rfl (by decide) (c2)) ?_ | refine LOps.whenC (LVal.call rfl rfl (by rw [hP]; exact Try.func37) rfl (by decide) (c3)) ?_ | refine LOps.valA ?_ | refine LOps.outA ?_ | refine LOps.whenA ?_ | refine LOps.pickA ?_ | refine LOps.storeA ?_)
      refine LWp.cond rfl (fun h => ?_) (fun h => ?_)
      · have h : (decide (enc s3 ≥ 0) && false) = true := h
        rw [Bool.and_false] at h
        cases h
      · repeat (first | refine LWp.condF rfl ?_ | refine LWp.condT rfl ?_ | refine LOps.nil ?_ | refine andThen_normal ?_ | refine andThen_exit ?_ | refine andThen_ret ?_ | refine inBlock_normal ?_ | refine inBlock_ret ?_ | refine inBlock_here ?_ | refine inBlock_out rfl ?_ | refine LWp.seq ?_ | refine LWp.region ?_ | refine LWp.block ?_ | refine LWp.exit ?_ | refine LWp.ret ?_ | refine LWp.skip ?_ | refine LOps.valA ?_ | refine LOps.outA ?_ | refine LOps.whenA ?_ | refine LOps.pickA ?_ | refine LOps.storeA ?_)
        exact ⟨_, LRes.sh (LRes.many rfl rfl (.cons (.cell rfl (box_set _ _ _) (hP ▸ tok33) rfl) (.cons (.tmp _) .nil))), rfl, (((hJ.set _).set _).set _).le.setBox hJ.s4 _⟩
  · have hz : opS bs (p, false) = ({ noOp with kind := (5 : Nat), key := t, after := f }, s5) := by
      simp only [opS, byteS_here hlt, hcc, e1, e5]; rfl
    rw [hz]
    repeat (first | refine LWp.condF rfl ?_ | refine LWp.condT rfl ?_ | refine LOps.nil ?_ | refine andThen_normal ?_ | refine andThen_exit ?_ | refine andThen_ret ?_ | refine inBlock_normal ?_ | refine inBlock_ret ?_ | refine inBlock_here ?_ | refine inBlock_out rfl ?_ | refine LWp.seq ?_ | refine LWp.region ?_ | refine LWp.block ?_ | refine LWp.exit ?_ | refine LWp.ret ?_ | refine LWp.skip ?_ | refine LOps.val (LVal.call rfl rfl (by rw [hP]; exact Try.func36) rfl (by decide) (c1)) rfl rfl rfl ?_ | refine LOps.val (LVal.call rfl rfl (by rw [hP]; exact Try.func37) rfl (by decide) (c5)) rfl rfl rfl ?_ | refine LOps.whenC (LVal.call rfl rfl (by rw [hP]; exact Try.func36) rfl (by decide) (c1)) ?_ | refine LOps.whenC (LVal.call rfl rfl (by rw [hP]; exact Try.func37) rfl (by decide) (c5)) ?_ | refine LOps.valA ?_ | refine LOps.outA ?_ | refine LOps.whenA ?_ | refine LOps.pickA ?_ | refine LOps.storeA ?_)
    exact ⟨_, LRes.sh (LRes.many rfl rfl (.cons (.cell rfl (box_set _ _ _) (hP ▸ tok33) rfl) (.cons (.tmp _) .nil))), rfl, ((hJ.set _).set _).le.setBox hJ.s4 _⟩
end Go.Proofs.Ytbifiagpmoakdaa.LF
