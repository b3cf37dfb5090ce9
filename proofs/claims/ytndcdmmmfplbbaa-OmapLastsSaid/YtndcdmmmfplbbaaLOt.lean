/- The walk of the law 'OmapLasts'. (Printed by gen_lasts.py.) -/
import Derived.Test.YtndcdmmmfplbbaaLOs
set_option linter.unusedVariables false
set_option linter.unusedSimpArgs false
namespace Go.Proofs.Ytndcdmmmfplbbaa.LF
open Go.RowKit
set_option linter.unusedVariables false

abbrev getN (k : ByteArray) : List LV := [uv 1, sv k, sv noBytes, sv noBytes, bv false, bv false, .sl .nil []]
theorem lastsDone {l : List Pr} {o : OpV} {k : ByteArray} (e : o.key = k) : ((getP l k).isSome == o.had && (!o.had || decide ((getP l k).getD noBytes = o.old))) = doneO l o := by
  subst e
  unfold doneO oldP
  rw [getP_has]
  cases getP l o.key <;> cases o.had <;> simp
theorem namW_take {o : OpV} {k : ByteArray} {n : Nat} (h : n < o.writes.length) : namW o k (o.writes.take (n + 1)) = (namW o k (o.writes.take n) || (o.kind == 6 && decide (o.writes[n].key = k))) := any_take h

set_option maxHeartbeats 32000000 in
set_option maxRecDepth 20000 in
theorem lasts_L {G : Ctx} (hP : G.P = Try.prog) (l : List Pr) (ops : List OpV) (key : ByteArray) (S : LS) : LCalls G 5 [.one (.sl .sh (l.map prL)), .one (.sl .sh (ops.map opL)), .one (sv key)] (fun r _ => r = .one (bv true)) S := by
  have hD : TabOK G.P D := by rw [hP]; exact hD0
  have ec : Unit → EqTy G.P D 35 := fun _ => by rw [hP]; exact ⟨by kernel_rfl, by kernel_rfl⟩
  have hmo : (ops.map opL).length = ops.length := List.length_map ..
  have c1 := great_F hP l ops
  have cw := wakes_F hP
  refine LCalls.enter (fn := Try.f5) (by rw [hP]; exact Try.func5) rfl rfl ?_
  repeat (first | refine LOps.nil ?_ | refine andThen_normal ?_ | refine andThen_exit ?_ | refine andThen_ret ?_ | refine inBlock_normal ?_ | refine inBlock_ret ?_ | refine inBlock_here ?_ | refine inBlock_out rfl ?_ | refine LWp.seq ?_ | refine LWp.region ?_ | refine LWp.block ?_ | refine LWp.exit ?_ | refine LWp.ret ?_ | refine LWp.skip ?_ | refine LOps.val (LVal.call rfl rfl (by rw [hP]; exact Try.func9) rfl (by decide) (c1)) rfl rfl rfl ?_ | refine LOps.whenC (LVal.call rfl rfl (by rw [hP]; exact Try.func9) rfl (by decide) (c1)) ?_ | refine LOps.valA ?_ | refine LOps.outA ?_ | refine LOps.whenA ?_ | refine LOps.pickA ?_ | refine LOps.storeA ?_)
  refine LWp.cond rfl (fun h => ?_) (fun h => ?_)
  · repeat (first | refine LOps.nil ?_ | refine andThen_normal ?_ | refine andThen_exit ?_ | refine andThen_ret ?_ | refine inBlock_normal ?_ | refine inBlock_ret ?_ | refine inBlock_here ?_ | refine inBlock_out rfl ?_ | refine LWp.seq ?_ | refine LWp.region ?_ | refine LWp.block ?_ | refine LWp.exit ?_ | refine LWp.ret ?_ | refine LWp.skip ?_ | refine LOps.val (LVal.call rfl rfl (by rw [hP]; exact Try.func10) rfl (by decide) (cw)) rfl rfl rfl ?_ | refine LOps.whenC (LVal.call rfl rfl (by rw [hP]; exact Try.func10) rfl (by decide) (cw)) ?_ | refine LOps.valA ?_ | refine LOps.outA ?_ | refine LOps.whenA ?_ | refine LOps.pickA ?_ | refine LOps.storeA ?_)
    exact ⟨_, LRes.one rfl, rfl⟩
  have h : (greatS l ops || decide ((key.size : Int) > 500)) = false := h
  rw [Bool.or_eq_false_iff] at h
  have hf := fine_of h.1
  have h5 : Small5 l := hf.ps
  have hnl := newP_length l
  have hfl := hf.nl
  have hfo := hf.no
  clear h
  repeat (first | refine LOps.nil ?_ | refine andThen_normal ?_ | refine andThen_exit ?_ | refine andThen_ret ?_ | refine inBlock_normal ?_ | refine inBlock_ret ?_ | refine inBlock_here ?_ | refine inBlock_out rfl ?_ | refine LWp.seq ?_ | refine LWp.region ?_ | refine LWp.block ?_ | refine LWp.exit ?_ | refine LWp.ret ?_ | refine LWp.skip ?_ | refine LOps.valA ?_ | refine LOps.outA ?_ | refine LOps.whenA ?_ | refine LOps.pickA ?_ | refine LOps.storeA ?_)
  refine LOps.do (LDo.callX (new_L hP .sh l (by omega) S) (by rw [hP]; exact Try.func11)) rfl rfl rfl ?_
  rintro _ S1 ⟨b, X, rfl, m, h1, h2, h3⟩
  have nw : NewO S S1 b X := ⟨h1, h2, h3⟩
  have hle := LS.le.refl S
  clear h1 h2 h3
  repeat (first | refine LOps.nil ?_ | refine andThen_normal ?_ | refine andThen_exit ?_ | refine andThen_ret ?_ | refine inBlock_normal ?_ | refine inBlock_ret ?_ | refine inBlock_here ?_ | refine inBlock_out rfl ?_ | refine LWp.seq ?_ | refine LWp.region ?_ | refine LWp.block ?_ | refine LWp.exit ?_ | refine LWp.ret ?_ | refine LWp.skip ?_ | refine LOps.valA ?_ | refine LOps.outA ?_ | refine LOps.whenA ?_ | refine LOps.pickA ?_ | refine LOps.storeA ?_)
  refine LOps.do (LDo.alloc hD rfl rfl rfl) rfl rfl rfl ?_
  rintro _ _ ⟨b8, hb8, rfl, rfl⟩
  refine LOps.storeA (b := b8) (off := 0) (cs := [uv 0, sv noBytes, sv noBytes, sv noBytes, bv false, bv false, .sl .nil []]) (l := getN key) ?_
  obtain ⟨S1, h01, k8, nw1, m1⟩ := nw.put m hb8 ([uv 0, sv noBytes, sv noBytes, sv noBytes, bv false, bv false, .sl .nil []]) (getN key)
  refine LOps.gen (fun S' => NewO S1 S' b X ∧ OM S' b X _) ⟨nw1, m1⟩ ?_
  replace hle := hle.trans h01
  clear nw m nw1 m1 h01 hb8
  rintro S2 ⟨nw, m⟩
  refine LOps.slots [(1, .one (.sl .sh (ops.map opL))), (2, .one (sv key)), (7, ptr b), (8, ptr b8)] ⟨rfl, rfl, rfl, rfl, trivial⟩ fun T9 => ?_
  repeat (first | refine LOps.nil ?_ | refine andThen_normal ?_ | refine andThen_exit ?_ | refine andThen_ret ?_ | refine inBlock_normal ?_ | refine inBlock_ret ?_ | refine inBlock_here ?_ | refine inBlock_out rfl ?_ | refine LWp.seq ?_ | refine LWp.region ?_ | refine LWp.block ?_ | refine LWp.exit ?_ | refine LWp.ret ?_ | refine LWp.skip ?_ | refine LOps.valA ?_ | refine LOps.outA ?_ | refine LOps.whenA ?_ | refine LOps.pickA ?_ | refine LOps.storeA ?_)
  refine LWp.loop (fun k T S' => ∃ (T' : Nat → TV) (j : Nat) (X : LV) (S0 : LS), j ≤ ops.length ∧ k = ops.length - j ∧ OM S' b X (runM (newP l) (ops.take j)) ∧ NewO S0 S' b X ∧ S0.box b8 = some (getN key) ∧ T = over T' [(1, .one (.sl .sh (ops.map opL))), (2, .one (sv key)), (7, ptr b), (8, ptr b8), (9, .one (iv (j : Nat)))]) ops.length ?_ ?_
  · exact ⟨_, 0, X, S1, by omega, rfl, m, nw, k8, holds.over ⟨rfl, rfl, rfl, rfl, rfl, trivial⟩⟩
  clear nw m k8 hle
  rintro k T S3 ⟨T', j, X, S0, hj, rfl, m, nw, k8, rfl⟩
  have hlen := runM_length (ops.take j) (newP l)
  rw [List.length_take] at hlen
  have h55 : Small5 (runM (newP l) (ops.take j)) := Small5.run _ (newP_srt l) h5.newP fun o ho => fineO_of (hf.os o (List.mem_of_mem_take ho))
  repeat (first | refine LOps.nil ?_ | refine andThen_normal ?_ | refine andThen_exit ?_ | refine andThen_ret ?_ | refine inBlock_normal ?_ | refine inBlock_ret ?_ | refine inBlock_here ?_ | refine inBlock_out rfl ?_ | refine LWp.seq ?_ | refine LWp.region ?_ | refine LWp.block ?_ | refine LWp.exit ?_ | refine LWp.ret ?_ | refine LWp.skip ?_ | refine LOps.valA ?_ | refine LOps.outA ?_ | refine LOps.whenA ?_ | refine LOps.pickA ?_ | refine LOps.storeA ?_)
  refine LWp.cond rfl (fun h => ?_) (fun h => ?_)
  · have hlt : j < ops.length := by simp at h; omega
    have hwn := (fineO_of (hf.os _ (List.getElem_mem hlt))).n
    have hle := LS.le.refl S0
    have e1 := runM_take (l := newP l) hlt
    have hs := m.srt
    generalize runM (newP l) (ops.take j) = lj at *
    have hld := doM_length lj ops[j]
    repeat (first | refine LOps.nil ?_ | refine andThen_normal ?_ | refine andThen_exit ?_ | refine andThen_ret ?_ | refine inBlock_normal ?_ | refine inBlock_ret ?_ | refine inBlock_here ?_ | refine inBlock_out rfl ?_ | refine LWp.seq ?_ | refine LWp.region ?_ | refine LWp.block ?_ | refine LWp.exit ?_ | refine LWp.ret ?_ | refine LWp.skip ?_ | refine LOps.valA ?_ | refine LOps.outA ?_ | refine LOps.whenA ?_ | refine LOps.pickA ?_ | refine LOps.storeA ?_)
    refine LOps.do (LDo.alloc hD rfl rfl rfl) rfl rfl rfl ?_
    rintro _ _ ⟨b10, hb10, rfl, rfl⟩
    refine LOps.storeA (b := b10) (off := 0) (cs := [uv 0, sv noBytes, sv noBytes, sv noBytes, bv false, bv false, .sl .nil []]) (l := opL ops[j]) ?_
    have n8_10 := fresh_ne hb10 (nw.le.box _ _ k8)
    obtain ⟨S1, h01, k10, nw1, m1⟩ := nw.put m hb10 ([uv 0, sv noBytes, sv noBytes, sv noBytes, bv false, bv false, .sl .nil []]) (opL ops[j])
    refine LOps.gen (fun S' => NewO S1 S' b X ∧ OM S' b X _) ⟨nw1, m1⟩ ?_
    replace k8 := h01.box _ _ k8
    replace hle := hle.trans h01
    clear nw m nw1 m1 h01 hb10
    rintro S2 ⟨nw, m⟩
    have q8 := nw.le.box _ _ k8
    repeat (first | refine LOps.valH (LVal.load hD rfl rfl q8 rfl rfl) ?_ | refine LOps.nil ?_ | refine andThen_normal ?_ | refine andThen_exit ?_ | refine andThen_ret ?_ | refine inBlock_normal ?_ | refine inBlock_ret ?_ | refine inBlock_here ?_ | refine inBlock_out rfl ?_ | refine LWp.seq ?_ | refine LWp.region ?_ | refine LWp.block ?_ | refine LWp.exit ?_ | refine LWp.ret ?_ | refine LWp.skip ?_ | refine LOps.valA ?_ | refine LOps.outA ?_ | refine LOps.whenA ?_ | refine LOps.pickA ?_ | refine LOps.storeA ?_)
    refine LOps.do (LDo.callF (do_L hP (lj) (by omega) (getOp key) b X _ m) (by rw [hP]; exact Try.func16)) rfl rfl rfl ?_
    rintro _ S2 ⟨rfl, X, m, mv2⟩
    replace nw := nw.mv mv2
    clear mv2
    rw [get_doM] at m
    refine LOps.do (LDo.alloc hD rfl rfl rfl) rfl rfl rfl ?_
    rintro _ _ ⟨b11, hb11, rfl, rfl⟩
    refine LOps.storeA (b := b11) (off := 0) (cs := ansL noAns) (l := ansL (doA lj (getOp key))) ?_
    have n8_11 := fresh_ne hb11 (nw.le.box _ _ k8)
    have n10_11 := fresh_ne hb11 (nw.le.box _ _ k10)
    obtain ⟨S1, h01, k11, nw1, m1⟩ := nw.put m hb11 (ansL noAns) (ansL (doA lj (getOp key)))
    refine LOps.gen (fun S' => NewO S1 S' b X ∧ OM S' b X _) ⟨nw1, m1⟩ ?_
    replace k8 := h01.box _ _ k8
    replace k10 := h01.box _ _ k10
    replace hle := hle.trans h01
    clear nw m nw1 m1 h01 hb11
    rintro S2 ⟨nw, m⟩
    have q10 := nw.le.box _ _ k10
    repeat (first | refine LOps.valH (LVal.load hD rfl rfl q10 rfl rfl) ?_ | refine LOps.nil ?_ | refine andThen_normal ?_ | refine andThen_exit ?_ | refine andThen_ret ?_ | refine inBlock_normal ?_ | refine inBlock_ret ?_ | refine inBlock_here ?_ | refine inBlock_out rfl ?_ | refine LWp.seq ?_ | refine LWp.region ?_ | refine LWp.block ?_ | refine LWp.exit ?_ | refine LWp.ret ?_ | refine LWp.skip ?_ | refine LOps.valA ?_ | refine LOps.outA ?_ | refine LOps.whenA ?_ | refine LOps.pickA ?_ | refine LOps.storeA ?_)
    refine LOps.do (LDo.callF (do_L hP (lj) (by omega) (ops[j]) b X _ m) (by rw [hP]; exact Try.func16)) rfl rfl rfl ?_
    rintro _ S2 ⟨rfl, X, m, mv2⟩
    replace nw := nw.mv mv2
    clear mv2
    refine LOps.do (LDo.alloc hD rfl rfl rfl) rfl rfl rfl ?_
    rintro _ _ ⟨b12, hb12, rfl, rfl⟩
    refine LOps.storeA (b := b12) (off := 0) (cs := ansL noAns) (l := ansL (doA lj ops[j])) ?_
    have n8_12 := fresh_ne hb12 (nw.le.box _ _ k8)
    have n10_12 := fresh_ne hb12 (nw.le.box _ _ k10)
    have n11_12 := fresh_ne hb12 (nw.le.box _ _ k11)
    obtain ⟨S1, h01, k12, nw1, m1⟩ := nw.put m hb12 (ansL noAns) (ansL (doA lj ops[j]))
    refine LOps.gen (fun S' => NewO S1 S' b X ∧ OM S' b X _) ⟨nw1, m1⟩ ?_
    replace k8 := h01.box _ _ k8
    replace k10 := h01.box _ _ k10
    replace k11 := h01.box _ _ k11
    replace hle := hle.trans h01
    clear nw m nw1 m1 h01 hb12
    rintro S2 ⟨nw, m⟩
    have q8 := nw.le.box _ _ k8
    repeat (first | refine LOps.valH (LVal.load hD rfl rfl q8 rfl rfl) ?_ | refine LOps.nil ?_ | refine andThen_normal ?_ | refine andThen_exit ?_ | refine andThen_ret ?_ | refine inBlock_normal ?_ | refine inBlock_ret ?_ | refine inBlock_here ?_ | refine inBlock_out rfl ?_ | refine LWp.seq ?_ | refine LWp.region ?_ | refine LWp.block ?_ | refine LWp.exit ?_ | refine LWp.ret ?_ | refine LWp.skip ?_ | refine LOps.valA ?_ | refine LOps.outA ?_ | refine LOps.whenA ?_ | refine LOps.pickA ?_ | refine LOps.storeA ?_)
    refine LOps.do (LDo.callF (do_L hP (doM lj ops[j]) (by omega) (getOp key) b X _ m) (by rw [hP]; exact Try.func16)) rfl rfl rfl ?_
    rintro _ S2 ⟨rfl, X, m, mv2⟩
    replace nw := nw.mv mv2
    clear mv2
    rw [get_doM] at m
    refine LOps.do (LDo.alloc hD rfl rfl rfl) rfl rfl rfl ?_
    rintro _ _ ⟨b13, hb13, rfl, rfl⟩
    refine LOps.storeA (b := b13) (off := 0) (cs := ansL noAns) (l := ansL (doA (doM lj ops[j]) (getOp key))) ?_
    have n8_13 := fresh_ne hb13 (nw.le.box _ _ k8)
    have n10_13 := fresh_ne hb13 (nw.le.box _ _ k10)
    have n11_13 := fresh_ne hb13 (nw.le.box _ _ k11)
    have n12_13 := fresh_ne hb13 (nw.le.box _ _ k12)
    obtain ⟨S1, h01, k13, nw1, m1⟩ := nw.put m hb13 (ansL noAns) (ansL (doA (doM lj ops[j]) (getOp key)))
    refine LOps.gen (fun S' => NewO S1 S' b X ∧ OM S' b X _) ⟨nw1, m1⟩ ?_
    replace k8 := h01.box _ _ k8
    replace k10 := h01.box _ _ k10
    replace k11 := h01.box _ _ k11
    replace k12 := h01.box _ _ k12
    replace hle := hle.trans h01
    clear nw m nw1 m1 h01 hb13
    rintro S2 ⟨nw, m⟩
    refine LOps.slots [(1, .one (.sl .sh (ops.map opL))), (2, .one (sv key)), (7, ptr b), (8, ptr b8), (9, .one (iv (j : Nat))), (10, ptr b10), (11, ptr b11), (12, ptr b12), (13, ptr b13)] ⟨rfl, rfl, rfl, rfl, rfl, rfl, rfl, rfl, rfl, trivial⟩ fun T10 => ?_
    clear q8 q10
    have q10 := nw.le.box _ _ k10
    have q11 := nw.le.box _ _ k11
    have q12 := nw.le.box _ _ k12
    have q13 := nw.le.box _ _ k13
    have hml : (ops[j].writes.map wrL).length = ops[j].writes.length := List.length_map ..
    repeat (first | refine LOps.nil ?_ | refine andThen_normal ?_ | refine andThen_exit ?_ | refine andThen_ret ?_ | refine inBlock_normal ?_ | refine inBlock_ret ?_ | refine inBlock_here ?_ | refine inBlock_out rfl ?_ | refine LWp.seq ?_ | refine LWp.region ?_ | refine LWp.block ?_ | refine LWp.exit ?_ | refine LWp.ret ?_ | refine LWp.skip ?_ | refine LOps.valA ?_ | refine LOps.outA ?_ | refine LOps.whenA ?_ | refine LOps.pickA ?_ | refine LOps.storeA ?_)
    refine LWp.loop (fun k T S' => S' = S2 ∧ ∃ (T' : Nat → TV) (n : Nat), n ≤ ops[j].writes.length ∧ k = ops[j].writes.length - n ∧ T = over T' [(1, .one (.sl .sh (ops.map opL))), (2, .one (sv key)), (7, ptr b), (8, ptr b8), (9, .one (iv (j : Nat))), (10, ptr b10), (11, ptr b11), (12, ptr b12), (13, ptr b13), (14, .one (bv (namT ops[j] key || namW ops[j] key (ops[j].writes.take n)))), (15, .one (iv (n : Nat)))]) ops[j].writes.length ?_ ?_
    · refine ⟨rfl, _, 0, by omega, by omega, holds.over ⟨rfl, rfl, rfl, rfl, rfl, rfl, rfl, rfl, rfl, ?_, rfl, trivial⟩⟩
      rw [List.take_zero]
      show _ = TV.one (bv (namT ops[j] key || false))
      rw [Bool.or_false]; rfl
    rintro k T S' ⟨hSe, T', n, hn, rfl, rfl⟩
    replace hSe := hSe.symm
    subst hSe
    repeat (first | refine LOps.nil ?_ | refine andThen_normal ?_ | refine andThen_exit ?_ | refine andThen_ret ?_ | refine inBlock_normal ?_ | refine inBlock_ret ?_ | refine inBlock_here ?_ | refine inBlock_out rfl ?_ | refine LWp.seq ?_ | refine LWp.region ?_ | refine LWp.block ?_ | refine LWp.exit ?_ | refine LWp.ret ?_ | refine LWp.skip ?_ | refine LOps.valA ?_ | refine LOps.outA ?_ | refine LOps.whenA ?_ | refine LOps.pickA ?_ | refine LOps.storeA ?_)
    refine LWp.cond rfl (fun h2 => ?_) (fun h2 => ?_)
    · have hln : n < ops[j].writes.length := by simp at h2; omega
      repeat (first | refine LOps.nil ?_ | refine andThen_normal ?_ | refine andThen_exit ?_ | refine andThen_ret ?_ | refine inBlock_normal ?_ | refine inBlock_ret ?_ | refine inBlock_here ?_ | refine inBlock_out rfl ?_ | refine LWp.seq ?_ | refine LWp.region ?_ | refine LWp.block ?_ | refine LWp.exit ?_ | refine LWp.ret ?_ | refine LWp.skip ?_ | refine LOps.valA ?_ | refine LOps.outA ?_ | refine LOps.whenA ?_ | refine LOps.pickA ?_ | refine LOps.storeA ?_)
      refine ⟨ops[j].writes.length - (n + 1), by omega, rfl, _, n + 1, by omega, rfl, holds.over ⟨rfl, rfl, rfl, rfl, rfl, rfl, rfl, rfl, rfl, ?_, rfl, trivial⟩⟩
      rw [namW_take hln, ← Bool.or_assoc]; rfl
    have hge : n = ops[j].writes.length := by simp at h2; omega
    subst hge
    rw [List.take_length]
    repeat (first | refine LOps.nil ?_ | refine andThen_normal ?_ | refine andThen_exit ?_ | refine andThen_ret ?_ | refine inBlock_normal ?_ | refine inBlock_ret ?_ | refine inBlock_here ?_ | refine inBlock_out rfl ?_ | refine LWp.seq ?_ | refine LWp.region ?_ | refine LWp.block ?_ | refine LWp.exit ?_ | refine LWp.ret ?_ | refine LWp.skip ?_ | refine LOps.valA ?_ | refine LOps.outA ?_ | refine LOps.whenA ?_ | refine LOps.pickA ?_ | refine LOps.storeA ?_)
    refine LWp.cond rfl (fun hc => ?_) (fun hc => ?_)
    · have hc : (!(namT ops[j] key || namW ops[j] key ops[j].writes) || ((doA lj ops[j]).code != 0)) = true := hc
      have hst := stays hs ops[j] key (by
        rw [Bool.or_eq_true] at hc
        rcases hc with hc | hc
        · exact .inl (by simpa using hc)
        · exact .inr (by simpa using hc))
      rw [hst] at q13
      repeat (first | refine LOps.valH (LVal.load hD rfl rfl q11 rfl rfl) ?_ | refine LOps.valH (LVal.load hD rfl rfl q13 rfl rfl) ?_ | refine LOps.valH (LVal.to (LVal.neqAgg hD rfl rfl rfl rfl rfl (ec ()) rfl) (r' := .one (bv false)) (by exact congrArg (fun b => TV.one (bv b)) (ans_ne _))) ?_ | refine LOps.nil ?_ | refine andThen_normal ?_ | refine andThen_exit ?_ | refine andThen_ret ?_ | refine inBlock_normal ?_ | refine inBlock_ret ?_ | refine inBlock_here ?_ | refine inBlock_out rfl ?_ | refine LWp.seq ?_ | refine LWp.region ?_ | refine LWp.block ?_ | refine LWp.exit ?_ | refine LWp.ret ?_ | refine LWp.skip ?_ | refine LOps.valA ?_ | refine LOps.outA ?_ | refine LOps.whenA ?_ | refine LOps.pickA ?_ | refine LOps.storeA ?_)
      refine LWp.condF rfl ?_
      repeat (first | refine LOps.nil ?_ | refine andThen_normal ?_ | refine andThen_exit ?_ | refine andThen_ret ?_ | refine inBlock_normal ?_ | refine inBlock_ret ?_ | refine inBlock_here ?_ | refine inBlock_out rfl ?_ | refine LWp.seq ?_ | refine LWp.region ?_ | refine LWp.block ?_ | refine LWp.exit ?_ | refine LWp.ret ?_ | refine LWp.skip ?_ | refine LOps.valA ?_ | refine LOps.outA ?_ | refine LOps.whenA ?_ | refine LOps.pickA ?_ | refine LOps.storeA ?_)
      exact ⟨ops.length - (j + 1), by omega, _, j + 1, X, S1, by omega, rfl, by rw [e1]; exact m, nw, k8, holds.over ⟨rfl, rfl, rfl, rfl, rfl, trivial⟩⟩
    have hc : (!(namT ops[j] key || namW ops[j] key ops[j].writes) || ((doA lj ops[j]).code != 0)) = false := hc
    rw [Bool.or_eq_false_iff] at hc
    have hN : (namT ops[j] key || namW ops[j] key ops[j].writes) = true := by
      have h1 := hc.1
      cases hq : (namT ops[j] key || namW ops[j] key ops[j].writes) with
      | true => rfl
      | false => rw [hq] at h1; cases h1
    have hr : refusedO ops[j] = 0 := by
      by_cases hr : refusedO ops[j] = 0
      · exact hr
      · exact absurd (bne_eq_false_iff_eq.1 hc.2) (code_bad (l := lj) hr)
    clear hc
    repeat (first | refine LOps.nil ?_ | refine andThen_normal ?_ | refine andThen_exit ?_ | refine andThen_ret ?_ | refine inBlock_normal ?_ | refine inBlock_ret ?_ | refine inBlock_here ?_ | refine inBlock_out rfl ?_ | refine LWp.seq ?_ | refine LWp.region ?_ | refine LWp.block ?_ | refine LWp.exit ?_ | refine LWp.ret ?_ | refine LWp.skip ?_ | refine LOps.valA ?_ | refine LOps.outA ?_ | refine LOps.whenA ?_ | refine LOps.pickA ?_ | refine LOps.storeA ?_)
    refine LWp.cond rfl (fun h3 => ?_) (fun h3 => ?_)
    · have h3 : (ops[j].kind == 2) = true := h3
      have h3 : ops[j].kind = 2 := by simpa using h3
      have hkey := named_key hN (by omega)
      obtain ⟨a1, a2, a3⟩ := puts hs hr h3
      rw [hkey] at a1 a2 a3
      rw [a1] at q11
      rw [a2] at q12
      rw [a3] at q13
      repeat (first | refine LOps.nil ?_ | refine andThen_normal ?_ | refine andThen_exit ?_ | refine andThen_ret ?_ | refine inBlock_normal ?_ | refine inBlock_ret ?_ | refine inBlock_here ?_ | refine inBlock_out rfl ?_ | refine LWp.seq ?_ | refine LWp.region ?_ | refine LWp.block ?_ | refine LWp.exit ?_ | refine LWp.ret ?_ | refine LWp.skip ?_ | refine LOps.valA ?_ | refine LOps.outA ?_ | refine LOps.whenA ?_ | refine LOps.pickA ?_ | refine LOps.storeA ?_)
      refine LWp.cond rfl (fun hx => ?_) (fun hx => ?_)
      · simp at hx
      repeat (first | refine LOps.nil ?_ | refine andThen_normal ?_ | refine andThen_exit ?_ | refine andThen_ret ?_ | refine inBlock_normal ?_ | refine inBlock_ret ?_ | refine inBlock_here ?_ | refine inBlock_out rfl ?_ | refine LWp.seq ?_ | refine LWp.region ?_ | refine LWp.block ?_ | refine LWp.exit ?_ | refine LWp.ret ?_ | refine LWp.skip ?_ | refine LOps.valA ?_ | refine LOps.outA ?_ | refine LOps.whenA ?_ | refine LOps.pickA ?_ | refine LOps.storeA ?_)
      exact ⟨ops.length - (j + 1), by omega, _, j + 1, X, S1, by omega, rfl, by rw [e1]; exact m, nw, k8, holds.over ⟨rfl, rfl, rfl, rfl, rfl, trivial⟩⟩
    have h3 : (ops[j].kind == 2) = false := h3
    have h3 : ops[j].kind ≠ 2 := by simpa using h3
    repeat (first | refine LOps.nil ?_ | refine andThen_normal ?_ | refine andThen_exit ?_ | refine andThen_ret ?_ | refine inBlock_normal ?_ | refine inBlock_ret ?_ | refine inBlock_here ?_ | refine inBlock_out rfl ?_ | refine LWp.seq ?_ | refine LWp.region ?_ | refine LWp.block ?_ | refine LWp.exit ?_ | refine LWp.ret ?_ | refine LWp.skip ?_ | refine LOps.valA ?_ | refine LOps.outA ?_ | refine LOps.whenA ?_ | refine LOps.pickA ?_ | refine LOps.storeA ?_)
    refine LWp.cond rfl (fun h4 => ?_) (fun h4 => ?_)
    · have h4 : (ops[j].kind == 3) = true := h4
      have h4 : ops[j].kind = 3 := by simpa using h4
      have hkey := named_key hN (by omega)
      obtain ⟨a1, a2, a3⟩ := dels hs hr h4
      rw [hkey] at a1 a2 a3
      rw [a1] at q11
      rw [a2] at q12
      rw [a3] at q13
      repeat (first | refine LOps.valH (LVal.load hD rfl rfl q13 rfl rfl) ?_ | refine LOps.valH (LVal.to (LVal.neqAgg hD rfl rfl rfl rfl rfl (ec ()) rfl) (r' := .one (bv false)) (by exact congrArg (fun b => TV.one (bv b)) (ans_ne noAns))) ?_ | refine LOps.nil ?_ | refine andThen_normal ?_ | refine andThen_exit ?_ | refine andThen_ret ?_ | refine inBlock_normal ?_ | refine inBlock_ret ?_ | refine inBlock_here ?_ | refine inBlock_out rfl ?_ | refine LWp.seq ?_ | refine LWp.region ?_ | refine LWp.block ?_ | refine LWp.exit ?_ | refine LWp.ret ?_ | refine LWp.skip ?_ | refine LOps.valA ?_ | refine LOps.outA ?_ | refine LOps.whenA ?_ | refine LOps.pickA ?_ | refine LOps.storeA ?_)
      refine LWp.cond rfl (fun hx => ?_) (fun hx => ?_)
      · simp at hx
      repeat (first | refine LOps.nil ?_ | refine andThen_normal ?_ | refine andThen_exit ?_ | refine andThen_ret ?_ | refine inBlock_normal ?_ | refine inBlock_ret ?_ | refine inBlock_here ?_ | refine inBlock_out rfl ?_ | refine LWp.seq ?_ | refine LWp.region ?_ | refine LWp.block ?_ | refine LWp.exit ?_ | refine LWp.ret ?_ | refine LWp.skip ?_ | refine LOps.valA ?_ | refine LOps.outA ?_ | refine LOps.whenA ?_ | refine LOps.pickA ?_ | refine LOps.storeA ?_)
      exact ⟨ops.length - (j + 1), by omega, _, j + 1, X, S1, by omega, rfl, by rw [e1]; exact m, nw, k8, holds.over ⟨rfl, rfl, rfl, rfl, rfl, trivial⟩⟩
    have h4 : (ops[j].kind == 3) = false := h4
    have h4 : ops[j].kind ≠ 3 := by simpa using h4
    repeat (first | refine LOps.nil ?_ | refine andThen_normal ?_ | refine andThen_exit ?_ | refine andThen_ret ?_ | refine inBlock_normal ?_ | refine inBlock_ret ?_ | refine inBlock_here ?_ | refine inBlock_out rfl ?_ | refine LWp.seq ?_ | refine LWp.region ?_ | refine LWp.block ?_ | refine LWp.exit ?_ | refine LWp.ret ?_ | refine LWp.skip ?_ | refine LOps.valA ?_ | refine LOps.outA ?_ | refine LOps.whenA ?_ | refine LOps.pickA ?_ | refine LOps.storeA ?_)
    refine LWp.cond rfl (fun h6 => ?_) (fun h6 => ?_)
    · have h6 : (ops[j].kind == 4) = true := h6
      have h6 : ops[j].kind = 4 := by simpa using h6
      have hkey := named_key hN (by omega)
      obtain ⟨a1, a2, a3⟩ := swaps hs hr h6
      rw [hkey] at a1 a2 a3
      have hdf := lastsDone (l := lj) hkey
      have ec2 := ec ()
      cases hd : doneO lj ops[j] with
      | true =>
        have hd2 := hdf.trans hd
        rw [hd] at a2 a3
        replace a2 : doA lj ops[j] = ⟨0, true, noBytes, (getP lj key).getD noBytes⟩ := a2
        replace a3 : doA (doM lj ops[j]) (getOp key) = gotA (some ops[j].val) := a3
        rw [a1] at q11
        rw [a2] at q12
        rw [a3] at q13
        repeat (first | refine LOps.whenS rfl (by intro hw; first | exact trivial | exact ⟨hw, trivial⟩) (LVal.load hD rfl rfl q13 rfl rfl) rfl rfl ?_ | refine LOps.whenS rfl (by intro hw; first | exact trivial | exact ⟨hw, trivial⟩) (LVal.load hD rfl rfl q11 rfl rfl) rfl rfl ?_ | refine LOps.nil ?_ | refine andThen_normal ?_ | refine andThen_exit ?_ | refine andThen_ret ?_ | refine inBlock_normal ?_ | refine inBlock_ret ?_ | refine inBlock_here ?_ | refine inBlock_out rfl ?_ | refine LWp.seq ?_ | refine LWp.region ?_ | refine LWp.block ?_ | refine LWp.exit ?_ | refine LWp.ret ?_ | refine LWp.skip ?_ | refine LOps.valA ?_ | refine LOps.outA ?_ | refine LOps.whenA ?_ | refine LOps.pickA ?_ | refine LOps.storeA ?_)
        refine LWp.cond rfl (fun hx => ?_) (fun hx => ?_)
        · exfalso
          revert hd2 hx
          cases getP lj key <;> cases ops[j].had <;> intro hd2 hx <;> simp_all
        repeat (first | refine LOps.nil ?_ | refine andThen_normal ?_ | refine andThen_exit ?_ | refine andThen_ret ?_ | refine inBlock_normal ?_ | refine inBlock_ret ?_ | refine inBlock_here ?_ | refine inBlock_out rfl ?_ | refine LWp.seq ?_ | refine LWp.region ?_ | refine LWp.block ?_ | refine LWp.exit ?_ | refine LWp.ret ?_ | refine LWp.skip ?_ | refine LOps.valA ?_ | refine LOps.outA ?_ | refine LOps.whenA ?_ | refine LOps.pickA ?_ | refine LOps.storeA ?_)
        exact ⟨ops.length - (j + 1), by omega, _, j + 1, X, S1, by omega, rfl, by rw [e1]; exact m, nw, k8, holds.over ⟨rfl, rfl, rfl, rfl, rfl, trivial⟩⟩
      | false =>
        have hd2 := hdf.trans hd
        rw [hd] at a2 a3
        replace a2 : doA lj ops[j] = ⟨0, false, noBytes, (getP lj key).getD noBytes⟩ := a2
        replace a3 : doA (doM lj ops[j]) (getOp key) = gotA (getP lj key) := a3
        rw [a1] at q11
        rw [a2] at q12
        rw [a3] at q13
        repeat (first | refine LOps.whenS rfl (by intro hw; first | exact trivial | exact ⟨hw, trivial⟩) (LVal.load hD rfl rfl q13 rfl rfl) rfl rfl ?_ | refine LOps.whenS rfl (by intro hw; first | exact trivial | exact ⟨hw, trivial⟩) (LVal.load hD rfl rfl q11 rfl rfl) rfl rfl ?_ | refine LOps.nil ?_ | refine andThen_normal ?_ | refine andThen_exit ?_ | refine andThen_ret ?_ | refine inBlock_normal ?_ | refine inBlock_ret ?_ | refine inBlock_here ?_ | refine inBlock_out rfl ?_ | refine LWp.seq ?_ | refine LWp.region ?_ | refine LWp.block ?_ | refine LWp.exit ?_ | refine LWp.ret ?_ | refine LWp.skip ?_ | refine LOps.valA ?_ | refine LOps.outA ?_ | refine LOps.whenA ?_ | refine LOps.pickA ?_ | refine LOps.storeA ?_)
        refine LWp.cond rfl (fun hx => ?_) (fun hx => ?_)
        · exfalso
          revert hd2 hx
          cases getP lj key <;> cases ops[j].had <;> intro hd2 hx <;> simp_all
        repeat (first | refine LOps.nil ?_ | refine andThen_normal ?_ | refine andThen_exit ?_ | refine andThen_ret ?_ | refine inBlock_normal ?_ | refine inBlock_ret ?_ | refine inBlock_here ?_ | refine inBlock_out rfl ?_ | refine LWp.seq ?_ | refine LWp.region ?_ | refine LWp.block ?_ | refine LWp.exit ?_ | refine LWp.ret ?_ | refine LWp.skip ?_ | refine LOps.valA ?_ | refine LOps.outA ?_ | refine LOps.whenA ?_ | refine LOps.pickA ?_ | refine LOps.storeA ?_)
        exact ⟨ops.length - (j + 1), by omega, _, j + 1, X, S1, by omega, rfl, by rw [e1]; exact m, nw, k8, holds.over ⟨rfl, rfl, rfl, rfl, rfl, trivial⟩⟩
    have h6 : (ops[j].kind == 4) = false := h6
    have h6 : ops[j].kind ≠ 4 := by simpa using h6
    repeat (first | refine LOps.nil ?_ | refine andThen_normal ?_ | refine andThen_exit ?_ | refine andThen_ret ?_ | refine inBlock_normal ?_ | refine inBlock_ret ?_ | refine inBlock_here ?_ | refine inBlock_out rfl ?_ | refine LWp.seq ?_ | refine LWp.region ?_ | refine LWp.block ?_ | refine LWp.exit ?_ | refine LWp.ret ?_ | refine LWp.skip ?_ | refine LOps.valA ?_ | refine LOps.outA ?_ | refine LOps.whenA ?_ | refine LOps.pickA ?_ | refine LOps.storeA ?_)
    refine LWp.cond rfl (fun h7 => ?_) (fun h7 => ?_)
    · have h7 : (ops[j].kind == 6) = true := h7
      have h7 : ops[j].kind = 6 := by simpa using h7
      repeat (first | refine LOps.nil ?_ | refine andThen_normal ?_ | refine andThen_exit ?_ | refine andThen_ret ?_ | refine inBlock_normal ?_ | refine inBlock_ret ?_ | refine inBlock_here ?_ | refine inBlock_out rfl ?_ | refine LWp.seq ?_ | refine LWp.region ?_ | refine LWp.block ?_ | refine LWp.exit ?_ | refine LWp.ret ?_ | refine LWp.skip ?_ | refine LOps.valA ?_ | refine LOps.outA ?_ | refine LOps.whenA ?_ | refine LOps.pickA ?_ | refine LOps.storeA ?_)
      refine LWp.loop (fun k T S' => S' = S2 ∧ ∃ (T' : Nat → TV) (n : Nat), n ≤ ops[j].writes.length ∧ k = n ∧ (∀ (i : Nat) (hi : i < ops[j].writes.length), n ≤ i → ops[j].writes[i].key ≠ key) ∧ T = over T' [(1, .one (.sl .sh (ops.map opL))), (2, .one (sv key)), (7, ptr b), (8, ptr b8), (9, .one (iv (j : Nat))), (10, ptr b10), (11, ptr b11), (12, ptr b12), (13, ptr b13), (16, .one (iv ((n : Int) - 1)))]) ops[j].writes.length ?_ ?_
      · exact ⟨rfl, _, ops[j].writes.length, by omega, rfl, fun i hi h => by omega, holds.over ⟨rfl, rfl, rfl, rfl, rfl, rfl, rfl, rfl, rfl, by rw [show ((ops[j].writes.length : Nat) : Int) = ((ops[j].writes.map wrL).length : Int) by rw [hml]]; rfl, trivial⟩⟩
      rintro k T S' ⟨hSe, T', n, hn, hkn, hno, rfl⟩
      replace hSe := hSe.symm
      subst hSe
      subst hkn
      cases k with
      | zero =>
        repeat (first | refine LOps.nil ?_ | refine andThen_normal ?_ | refine andThen_exit ?_ | refine andThen_ret ?_ | refine inBlock_normal ?_ | refine inBlock_ret ?_ | refine inBlock_here ?_ | refine inBlock_out rfl ?_ | refine LWp.seq ?_ | refine LWp.region ?_ | refine LWp.block ?_ | refine LWp.exit ?_ | refine LWp.ret ?_ | refine LWp.skip ?_ | refine LOps.valA ?_ | refine LOps.outA ?_ | refine LOps.whenA ?_ | refine LOps.pickA ?_ | refine LOps.storeA ?_)
        refine LWp.condF rfl ?_
        repeat (first | refine LOps.nil ?_ | refine andThen_normal ?_ | refine andThen_exit ?_ | refine andThen_ret ?_ | refine inBlock_normal ?_ | refine inBlock_ret ?_ | refine inBlock_here ?_ | refine inBlock_out rfl ?_ | refine LWp.seq ?_ | refine LWp.region ?_ | refine LWp.block ?_ | refine LWp.exit ?_ | refine LWp.ret ?_ | refine LWp.skip ?_ | refine LOps.valA ?_ | refine LOps.outA ?_ | refine LOps.whenA ?_ | refine LOps.pickA ?_ | refine LOps.storeA ?_)
        exact ⟨ops.length - (j + 1), by omega, _, j + 1, X, S1, by omega, rfl, by rw [e1]; exact m, nw, k8, holds.over ⟨rfl, rfl, rfl, rfl, rfl, trivial⟩⟩
      | succ i =>
        rw [show (((i + 1 : Nat) : Int) - 1) = (i : Int) by omega]
        have hli : i < ops[j].writes.length := by omega
        repeat (first | refine LOps.nil ?_ | refine andThen_normal ?_ | refine andThen_exit ?_ | refine andThen_ret ?_ | refine inBlock_normal ?_ | refine inBlock_ret ?_ | refine inBlock_here ?_ | refine inBlock_out rfl ?_ | refine LWp.seq ?_ | refine LWp.region ?_ | refine LWp.block ?_ | refine LWp.exit ?_ | refine LWp.ret ?_ | refine LWp.skip ?_ | refine LOps.valA ?_ | refine LOps.outA ?_ | refine LOps.whenA ?_ | refine LOps.pickA ?_ | refine LOps.storeA ?_)
        refine LWp.cond rfl (fun h8 => ?_) (fun h8 => ?_)
        · repeat (first | refine LOps.nil ?_ | refine andThen_normal ?_ | refine andThen_exit ?_ | refine andThen_ret ?_ | refine inBlock_normal ?_ | refine inBlock_ret ?_ | refine inBlock_here ?_ | refine inBlock_out rfl ?_ | refine LWp.seq ?_ | refine LWp.region ?_ | refine LWp.block ?_ | refine LWp.exit ?_ | refine LWp.ret ?_ | refine LWp.skip ?_ | refine LOps.valA ?_ | refine LOps.outA ?_ | refine LOps.whenA ?_ | refine LOps.pickA ?_ | refine LOps.storeA ?_)
          refine LWp.cond rfl (fun h9 => ?_) (fun h9 => ?_)
          · have h9 : decide (ops[j].writes[i].key = key) = true := h9
            have h9 : ops[j].writes[i].key = key := by simpa using h9
            have hb := batches hs hr h7 hli (fun a ha hia => by rw [h9]; exact hno a ha (by omega))
            rw [h9] at hb
            rw [hb] at q13
            cases hg : ops[j].writes[i].gone with
            | true =>
              rw [hg] at q13
              replace q13 : S2.box b13 = some (ansL noAns) := q13
              repeat (first | refine LOps.nil ?_ | refine andThen_normal ?_ | refine andThen_exit ?_ | refine andThen_ret ?_ | refine inBlock_normal ?_ | refine inBlock_ret ?_ | refine inBlock_here ?_ | refine inBlock_out rfl ?_ | refine LWp.seq ?_ | refine LWp.region ?_ | refine LWp.block ?_ | refine LWp.exit ?_ | refine LWp.ret ?_ | refine LWp.skip ?_ | refine LOps.valA ?_ | refine LOps.outA ?_ | refine LOps.whenA ?_ | refine LOps.pickA ?_ | refine LOps.storeA ?_)
              refine LWp.drawL [0, 1, 2, 3, 4, 5, 6, 7, 8, 9, 10, 11, 12, 13, 14, 15, 16, 17, 18, 19, 20, 21, 22, 23] (by rw [hP]; rfl) rfl ?_
              repeat (first | refine LRl.nil ?_ | refine LRl.valA ?_ | refine LRl.outA ?_ | refine LRl.whenA ?_ | refine LRl.pickA ?_)
              repeat (first | refine LOps.nil ?_ | refine andThen_normal ?_ | refine andThen_exit ?_ | refine andThen_ret ?_ | refine inBlock_normal ?_ | refine inBlock_ret ?_ | refine inBlock_here ?_ | refine inBlock_out rfl ?_ | refine LWp.seq ?_ | refine LWp.region ?_ | refine LWp.block ?_ | refine LWp.exit ?_ | refine LWp.ret ?_ | refine LWp.skip ?_ | refine LOps.valA ?_ | refine LOps.outA ?_ | refine LOps.whenA ?_ | refine LOps.pickA ?_ | refine LOps.storeA ?_)
              refine LWp.cond rfl (fun hx => ?_) (fun hx => ?_)
              · exfalso; simp_all [noAns]
              repeat (first | refine LOps.nil ?_ | refine andThen_normal ?_ | refine andThen_exit ?_ | refine andThen_ret ?_ | refine inBlock_normal ?_ | refine inBlock_ret ?_ | refine inBlock_here ?_ | refine inBlock_out rfl ?_ | refine LWp.seq ?_ | refine LWp.region ?_ | refine LWp.block ?_ | refine LWp.exit ?_ | refine LWp.ret ?_ | refine LWp.skip ?_ | refine LOps.valA ?_ | refine LOps.outA ?_ | refine LOps.whenA ?_ | refine LOps.pickA ?_ | refine LOps.storeA ?_)
              exact ⟨ops.length - (j + 1), by omega, _, j + 1, X, S1, by omega, rfl, by rw [e1]; exact m, nw, k8, holds.over ⟨rfl, rfl, rfl, rfl, rfl, trivial⟩⟩
            | false =>
              rw [hg] at q13
              replace q13 : S2.box b13 = some (ansL (gotA (some ops[j].writes[i].val))) := q13
              repeat (first | refine LOps.nil ?_ | refine andThen_normal ?_ | refine andThen_exit ?_ | refine andThen_ret ?_ | refine inBlock_normal ?_ | refine inBlock_ret ?_ | refine inBlock_here ?_ | refine inBlock_out rfl ?_ | refine LWp.seq ?_ | refine LWp.region ?_ | refine LWp.block ?_ | refine LWp.exit ?_ | refine LWp.ret ?_ | refine LWp.skip ?_ | refine LOps.valA ?_ | refine LOps.outA ?_ | refine LOps.whenA ?_ | refine LOps.pickA ?_ | refine LOps.storeA ?_)
              refine LWp.drawL [0, 1, 2, 3, 4, 5, 6, 7, 8, 9, 10, 11, 12, 13, 14, 15, 16, 17, 18, 19, 20, 21, 22, 23] (by rw [hP]; rfl) rfl ?_
              repeat (first | refine LRl.nil ?_ | refine LRl.valA ?_ | refine LRl.outA ?_ | refine LRl.whenA ?_ | refine LRl.pickA ?_)
              repeat (first | refine LOps.nil ?_ | refine andThen_normal ?_ | refine andThen_exit ?_ | refine andThen_ret ?_ | refine inBlock_normal ?_ | refine inBlock_ret ?_ | refine inBlock_here ?_ | refine inBlock_out rfl ?_ | refine LWp.seq ?_ | refine LWp.region ?_ | refine LWp.block ?_ | refine LWp.exit ?_ | refine LWp.ret ?_ | refine LWp.skip ?_ | refine LOps.valA ?_ | refine LOps.outA ?_ | refine LOps.whenA ?_ | refine LOps.pickA ?_ | refine LOps.storeA ?_)
              refine LWp.cond rfl (fun hx => ?_) (fun hx => ?_)
              · exfalso; simp_all
              repeat (first | refine LOps.nil ?_ | refine andThen_normal ?_ | refine andThen_exit ?_ | refine andThen_ret ?_ | refine inBlock_normal ?_ | refine inBlock_ret ?_ | refine inBlock_here ?_ | refine inBlock_out rfl ?_ | refine LWp.seq ?_ | refine LWp.region ?_ | refine LWp.block ?_ | refine LWp.exit ?_ | refine LWp.ret ?_ | refine LWp.skip ?_ | refine LOps.valA ?_ | refine LOps.outA ?_ | refine LOps.whenA ?_ | refine LOps.pickA ?_ | refine LOps.storeA ?_)
              exact ⟨ops.length - (j + 1), by omega, _, j + 1, X, S1, by omega, rfl, by rw [e1]; exact m, nw, k8, holds.over ⟨rfl, rfl, rfl, rfl, rfl, trivial⟩⟩
          have h9 : decide (ops[j].writes[i].key = key) = false := h9
          have h9 : ops[j].writes[i].key ≠ key := by simpa using h9
          repeat (first | refine LOps.nil ?_ | refine andThen_normal ?_ | refine andThen_exit ?_ | refine andThen_ret ?_ | refine inBlock_normal ?_ | refine inBlock_ret ?_ | refine inBlock_here ?_ | refine inBlock_out rfl ?_ | refine LWp.seq ?_ | refine LWp.region ?_ | refine LWp.block ?_ | refine LWp.exit ?_ | refine LWp.ret ?_ | refine LWp.skip ?_ | refine LOps.valA ?_ | refine LOps.outA ?_ | refine LOps.whenA ?_ | refine LOps.pickA ?_ | refine LOps.storeA ?_)
          refine ⟨i, by omega, rfl, _, i, by omega, rfl, fun a ha hia => ?_, holds.over ⟨rfl, rfl, rfl, rfl, rfl, rfl, rfl, rfl, rfl, rfl, trivial⟩⟩
          rcases Nat.lt_or_ge i a with h10 | h10
          · exact hno a ha (by omega)
          · obtain rfl : a = i := by omega
            exact h9
        · simp at h8
    repeat (first | refine LOps.nil ?_ | refine andThen_normal ?_ | refine andThen_exit ?_ | refine andThen_ret ?_ | refine inBlock_normal ?_ | refine inBlock_ret ?_ | refine inBlock_here ?_ | refine inBlock_out rfl ?_ | refine LWp.seq ?_ | refine LWp.region ?_ | refine LWp.block ?_ | refine LWp.exit ?_ | refine LWp.ret ?_ | refine LWp.skip ?_ | refine LOps.valA ?_ | refine LOps.outA ?_ | refine LOps.whenA ?_ | refine LOps.pickA ?_ | refine LOps.storeA ?_)
    exact ⟨ops.length - (j + 1), by omega, _, j + 1, X, S1, by omega, rfl, by rw [e1]; exact m, nw, k8, holds.over ⟨rfl, rfl, rfl, rfl, rfl, trivial⟩⟩
  · have hge : j = ops.length := by simp at h; omega
    subst hge
    rw [List.take_length] at m h55 hlen
    repeat (first | refine LOps.nil ?_ | refine andThen_normal ?_ | refine andThen_exit ?_ | refine andThen_ret ?_ | refine inBlock_normal ?_ | refine inBlock_ret ?_ | refine inBlock_here ?_ | refine inBlock_out rfl ?_ | refine LWp.seq ?_ | refine LWp.region ?_ | refine LWp.block ?_ | refine LWp.exit ?_ | refine LWp.ret ?_ | refine LWp.skip ?_ | refine LOps.valA ?_ | refine LOps.outA ?_ | refine LOps.whenA ?_ | refine LOps.pickA ?_ | refine LOps.storeA ?_)
    refine LOps.do (LDo.callX (walks_L hP _ (by omega) h55 b X S0 _ nw m) (by rw [hP]; exact Try.func22)) rfl rfl rfl ?_
    rintro _ S9 rfl
    repeat (first | refine LOps.valW ?_ | refine LOps.valH (LVal.call rfl rfl (by rw [hP]; exact Try.func10) rfl (by decide) cw) ?_ | refine LOps.nil ?_ | refine andThen_normal ?_ | refine andThen_exit ?_ | refine andThen_ret ?_ | refine inBlock_normal ?_ | refine inBlock_ret ?_ | refine inBlock_here ?_ | refine inBlock_out rfl ?_ | refine LWp.seq ?_ | refine LWp.region ?_ | refine LWp.block ?_ | refine LWp.exit ?_ | refine LWp.ret ?_ | refine LWp.skip ?_ | refine LOps.valA ?_ | refine LOps.outA ?_ | refine LOps.whenA ?_ | refine LOps.pickA ?_ | refine LOps.storeA ?_)
    exact ⟨_, LRes.one rfl, rfl⟩
end Go.Proofs.Ytndcdmmmfplbbaa.LF

namespace Go.Proofs.Ytndcdmmmfplbbaa
open Go.RowKit LF
theorem omapLasts_walk (W : World) (v0 : Value) (l0 : List LV) (y0 : Typed LF.D 22 l0) (g0 : RepT (G0 Try.prog W) W (allCells W) (argTV ti22 l0) v0) (v1 : Value) (l1 : List LV) (y1 : Typed LF.D 23 l1) (g1 : RepT (G0 Try.prog W) W (allCells W) (argTV ti23 l1) v1) (v2 : Value) (l2 : List LV) (y2 : Typed LF.D 9 l2) (g2 : RepT (G0 Try.prog W) W (allCells W) (argTV ti9 l2) v2) :
    Calls Try.prog 5 #[v0, v1, v2] W fun e W' => e = .returned (.bool true) ∧ Below W.heap.size W W' := by
  obtain ⟨l, rfl⟩ := typed_prs y0
  obtain ⟨ops, rfl⟩ := typed_ops y1
  obtain ⟨key, rfl, _⟩ := typed_str rfl rfl y2
  exact law_calls (fun G S h => lasts_L h l ops key S) (.cons (vs := [v1, v2]) g0 (.cons (vs := [v2]) g1 (.cons (vs := []) g2 .nil)))
end Go.Proofs.Ytndcdmmmfplbbaa
