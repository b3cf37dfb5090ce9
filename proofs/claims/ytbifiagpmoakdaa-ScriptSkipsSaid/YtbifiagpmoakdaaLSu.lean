/- The walk of the law 'ScriptSkips'. -/
import Derived.Test.YtbifiagpmoakdaaLSt
set_option linter.unusedVariables false
set_option linter.unusedSimpArgs false
namespace Go.Proofs.Ytbifiagpmoakdaa.LF
open Go.RowKit
set_option linter.unusedVariables false

theorem rep_succ {α : Type} (n : Nat) (c : α) : List.replicate n c ++ [c] = List.replicate (n + 1) c := by
  rw [List.replicate_succ']

set_option maxHeartbeats 8000000 in
theorem skips_L {G : Ctx} (hP : G.P = Try.prog) (l : List En) (ht : ∀ x ∈ l, EnT x) (m : List En) (htm : ∀ x ∈ m, EnT x) (c : Int) (hc : 0 ≤ c ∧ c < 256) (t : Int) (ht8 : 0 ≤ t ∧ t < 256) (S : LS) : LCalls G 7 [.one (.sl .sh (l.map enL)), .one (.sl .sh (m.map enL)), .one (uv c), .one (uv t)] (fun r _ => r = .one (bv true)) S := by
  have hD : TabOK G.P D := by rw [hP]; exact hD0
  have hml : (l.map enL).length = l.length := List.length_map ..
  have hmm : (m.map enL).length = m.length := List.length_map ..
  refine LCalls.enter (fn := Try.f7) (by rw [hP]; exact Try.func7) rfl rfl ?_
  repeat (first | refine LOps.nil ?_ | refine andThen_normal ?_ | refine andThen_exit ?_ | refine andThen_ret ?_ | refine inBlock_normal ?_ | refine inBlock_ret ?_ | refine inBlock_here ?_ | refine inBlock_out rfl ?_ | refine LWp.seq ?_ | refine LWp.region ?_ | refine LWp.block ?_ | refine LWp.exit ?_ | refine LWp.ret ?_ | refine LWp.skip ?_ | refine LOps.val (LVal.call rfl rfl (by rw [hP]; exact Try.func10) rfl (by decide) (awake_F hP)) rfl rfl rfl ?_ | refine LOps.whenC (LVal.call rfl rfl (by rw [hP]; exact Try.func10) rfl (by decide) (awake_F hP)) ?_ | refine LOps.valA ?_ | refine LOps.outA ?_ | refine LOps.whenA ?_ | refine LOps.pickA ?_ | refine LOps.storeA ?_)
  refine LWp.cond rfl (fun h => ?_) (fun h => ?_)
  · simp at h
  repeat (first | refine LOps.nil ?_ | refine andThen_normal ?_ | refine andThen_exit ?_ | refine andThen_ret ?_ | refine inBlock_normal ?_ | refine inBlock_ret ?_ | refine inBlock_here ?_ | refine inBlock_out rfl ?_ | refine LWp.seq ?_ | refine LWp.region ?_ | refine LWp.block ?_ | refine LWp.exit ?_ | refine LWp.ret ?_ | refine LWp.skip ?_ | refine LOps.val (LVal.call rfl rfl (by rw [hP]; exact Try.func15) rfl (by decide) (great_F hP l)) rfl rfl rfl ?_ | refine LOps.val (LVal.call rfl rfl (by rw [hP]; exact Try.func15) rfl (by decide) (great_F hP m)) rfl rfl rfl ?_ | refine LOps.whenC (LVal.call rfl rfl (by rw [hP]; exact Try.func15) rfl (by decide) (great_F hP l)) ?_ | refine LOps.whenC (LVal.call rfl rfl (by rw [hP]; exact Try.func15) rfl (by decide) (great_F hP m)) ?_ | refine LOps.valA ?_ | refine LOps.outA ?_ | refine LOps.whenA ?_ | refine LOps.pickA ?_ | refine LOps.storeA ?_)
  refine LWp.cond rfl (fun h => ?_) (fun h => ?_)
  · repeat (first | refine LOps.nil ?_ | refine andThen_normal ?_ | refine andThen_exit ?_ | refine andThen_ret ?_ | refine inBlock_normal ?_ | refine inBlock_ret ?_ | refine inBlock_here ?_ | refine inBlock_out rfl ?_ | refine LWp.seq ?_ | refine LWp.region ?_ | refine LWp.block ?_ | refine LWp.exit ?_ | refine LWp.ret ?_ | refine LWp.skip ?_ | refine LOps.valA ?_ | refine LOps.outA ?_ | refine LOps.whenA ?_ | refine LOps.pickA ?_ | refine LOps.storeA ?_)
    exact ⟨_, LRes.one rfl, rfl⟩
  have h : (greatS l || greatS m) = false := h
  rw [Bool.or_eq_false_iff] at h
  obtain ⟨hl3, hsl⟩ := greatS_small h.1
  obtain ⟨hm3, hsm⟩ := greatS_small h.2
  clear h
  have hx : ∀ x ∈ l, EnB x := fun x hx => (hsl x hx).b (ht x hx)
  have hy : ∀ x ∈ m, EnB x := fun x hx => (hsm x hx).b (htm x hx)
  have he := encode_F hP l (by omega) hx
  have hf := encode_F hP m (by omega) hy
  have hlx := encS_len l
  have hly := encS_len m
  have hbx := bL_len (encS l).1
  have hby := bL_len (encS m).1
  repeat (first | refine LWp.seq (LWp.cut 7 (fun T' S' => S' = S ∧ ∃ (d : UInt8) (T'' : Nat → TV), (d.toNat = 0 ∨ 6 < d.toNat) ∧ T' = over T'' [(0, .one (.sl .sh (l.map enL))), (1, .one (.sl .sh (m.map enL))), (2, .one (uv (d.toNat : Int))), (3, .one (uv t)), (9, .one (.sl .sh (bL (encS l).1))), (10, .one (iv ((encS l).2 : Nat))), (11, .one (.sl .sh (bL (encS m).1))), (12, .one (iv ((encS m).2 : Nat)))]) rfl ?_ ?_) | refine LOps.nil ?_ | refine andThen_normal ?_ | refine andThen_exit ?_ | refine andThen_ret ?_ | refine inBlock_normal ?_ | refine inBlock_ret ?_ | refine inBlock_here ?_ | refine inBlock_out rfl ?_ | refine LWp.seq ?_ | refine LWp.region ?_ | refine LWp.block ?_ | refine LWp.exit ?_ | refine LWp.ret ?_ | refine LWp.skip ?_ | refine LOps.val (LVal.call rfl rfl (by rw [hP]; exact Try.func14) rfl (by decide) (he)) rfl rfl rfl ?_ | refine LOps.val (LVal.call rfl rfl (by rw [hP]; exact Try.func14) rfl (by decide) (hf)) rfl rfl rfl ?_ | refine LOps.whenC (LVal.call rfl rfl (by rw [hP]; exact Try.func14) rfl (by decide) (he)) ?_ | refine LOps.whenC (LVal.call rfl rfl (by rw [hP]; exact Try.func14) rfl (by decide) (hf)) ?_ | refine LOps.valA ?_ | refine LOps.outA ?_ | refine LOps.whenA ?_ | refine LOps.pickA ?_ | refine LOps.storeA ?_)
  · repeat (first | refine LOps.nil ?_ | refine andThen_normal ?_ | refine andThen_exit ?_ | refine andThen_ret ?_ | refine inBlock_normal ?_ | refine inBlock_ret ?_ | refine inBlock_here ?_ | refine inBlock_out rfl ?_ | refine LWp.seq ?_ | refine LWp.region ?_ | refine LWp.block ?_ | refine LWp.exit ?_ | refine LWp.ret ?_ | refine LWp.skip ?_ | refine LOps.valA ?_ | refine LOps.outA ?_ | refine LOps.whenA ?_ | refine LOps.pickA ?_ | refine LOps.storeA ?_)
    refine LWp.cond rfl (fun h => ?_) (fun h => ?_)
    · repeat (first | refine LOps.nil ?_ | refine andThen_normal ?_ | refine andThen_exit ?_ | refine andThen_ret ?_ | refine inBlock_normal ?_ | refine inBlock_ret ?_ | refine inBlock_here ?_ | refine inBlock_out rfl ?_ | refine LWp.seq ?_ | refine LWp.region ?_ | refine LWp.block ?_ | refine LWp.exit ?_ | refine LWp.ret ?_ | refine LWp.skip ?_ | refine LOps.valA ?_ | refine LOps.outA ?_ | refine LOps.whenA ?_ | refine LOps.pickA ?_ | refine LOps.storeA ?_)
      exact ⟨rfl, 0, _, .inl rfl, holds.over ⟨rfl, rfl, rfl, rfl, rfl, rfl, rfl, rfl, trivial⟩⟩
    · have h : (decide (c ≥ 1) && decide (c ≤ 6)) = false := h
      rw [Bool.and_eq_false_iff] at h
      have hu : (UInt8.ofNat c.toNat).toNat = c.toNat := by rw [UInt8.toNat_ofNat']; omega
      have hce : (((UInt8.ofNat c.toNat).toNat : Nat) : Int) = c := by rw [hu]; omega
      repeat (first | refine LOps.nil ?_ | refine andThen_normal ?_ | refine andThen_exit ?_ | refine andThen_ret ?_ | refine inBlock_normal ?_ | refine inBlock_ret ?_ | refine inBlock_here ?_ | refine inBlock_out rfl ?_ | refine LWp.seq ?_ | refine LWp.region ?_ | refine LWp.block ?_ | refine LWp.exit ?_ | refine LWp.ret ?_ | refine LWp.skip ?_ | refine LOps.valA ?_ | refine LOps.outA ?_ | refine LOps.whenA ?_ | refine LOps.pickA ?_ | refine LOps.storeA ?_)
      refine ⟨rfl, UInt8.ofNat c.toNat, _, ?_, holds.over ⟨rfl, rfl, by rw [hce]; rfl, rfl, rfl, rfl, rfl, rfl, trivial⟩⟩
      rw [hu]
      rcases h with h | h
      · have := of_decide_eq_false h; omega
      · have := of_decide_eq_false h; omega
  rintro T' S ⟨rfl, d, T'', hd0, rfl⟩
  obtain ⟨n, hn, hn20⟩ : ∃ n : Nat, t % 20 = (n : Int) ∧ n < 20 := ⟨(t % 20).toNat, by omega, by omega⟩
  repeat (first | refine LOps.val (r := .one (iv (n : Nat))) (LVal.to (LVal.conv64 hD rfl rfl rfl rfl rfl (by omega)) (congrArg (fun x => TV.one (iv x)) hn)) rfl rfl rfl ?_ | refine LOps.nil ?_ | refine andThen_normal ?_ | refine andThen_exit ?_ | refine andThen_ret ?_ | refine inBlock_normal ?_ | refine inBlock_ret ?_ | refine inBlock_here ?_ | refine inBlock_out rfl ?_ | refine LWp.seq ?_ | refine LWp.region ?_ | refine LWp.block ?_ | refine LWp.exit ?_ | refine LWp.ret ?_ | refine LWp.skip ?_ | refine LOps.valA ?_ | refine LOps.outA ?_ | refine LOps.whenA ?_ | refine LOps.pickA ?_ | refine LOps.storeA ?_)
  refine LWp.cond rfl (fun h => ?_) (fun h => ?_)
  · repeat (first | refine LOps.nil ?_ | refine andThen_normal ?_ | refine andThen_exit ?_ | refine andThen_ret ?_ | refine inBlock_normal ?_ | refine inBlock_ret ?_ | refine inBlock_here ?_ | refine inBlock_out rfl ?_ | refine LWp.seq ?_ | refine LWp.region ?_ | refine LWp.block ?_ | refine LWp.exit ?_ | refine LWp.ret ?_ | refine LWp.skip ?_ | refine LOps.valA ?_ | refine LOps.outA ?_ | refine LOps.whenA ?_ | refine LOps.pickA ?_ | refine LOps.storeA ?_)
    exact ⟨_, LRes.one rfl, rfl⟩
  have h : ((!((((encS l).2 : Nat) : Int) == 0) || !((((encS m).2 : Nat) : Int) == 0)) || decide (((bL (encS l).1).length : Int) + ((bL (encS m).1).length : Int) + 3 * (n : Int) > 16384)) = false := h
  rw [Bool.or_eq_false_iff, Bool.or_eq_false_iff, hbx, hby] at h
  obtain ⟨k1, k2, k3⟩ := encS_ok (l := l) (by have := h.1.1; simp at this; omega)
  obtain ⟨j1, j2, j3⟩ := encS_ok (l := m) (by have := h.1.2; simp at this; omega)
  have htot : (encS l).1.length + (encS m).1.length + 3 * n ≤ 16384 := by have := h.2; simp at this; omega
  clear h
  repeat (first | refine LWp.seq (LWp.cut 13 (fun T' S' => ∃ (o : Own) (T'' : Nat → TV), S.le S' ∧ T' = over T'' [(0, .one (.sl .sh (l.map enL))), (1, .one (.sl .sh (m.map enL))), (9, .one (.sl .sh (bL (encS l).1))), (11, .one (.sl .sh (bL (encS m).1))), (14, .one (.sl o (bL (List.replicate n d))))]) rfl ?_ ?_) | refine LOps.nil ?_ | refine andThen_normal ?_ | refine andThen_exit ?_ | refine andThen_ret ?_ | refine inBlock_normal ?_ | refine inBlock_ret ?_ | refine inBlock_here ?_ | refine inBlock_out rfl ?_ | refine LWp.seq ?_ | refine LWp.region ?_ | refine LWp.block ?_ | refine LWp.exit ?_ | refine LWp.ret ?_ | refine LWp.skip ?_ | refine LOps.valA ?_ | refine LOps.outA ?_ | refine LOps.whenA ?_ | refine LOps.pickA ?_ | refine LOps.storeA ?_)
  · repeat (first | refine LOps.nil ?_ | refine andThen_normal ?_ | refine andThen_exit ?_ | refine andThen_ret ?_ | refine inBlock_normal ?_ | refine inBlock_ret ?_ | refine inBlock_here ?_ | refine inBlock_out rfl ?_ | refine LWp.seq ?_ | refine LWp.region ?_ | refine LWp.block ?_ | refine LWp.exit ?_ | refine LWp.ret ?_ | refine LWp.skip ?_ | refine LOps.valA ?_ | refine LOps.outA ?_ | refine LOps.whenA ?_ | refine LOps.pickA ?_ | refine LOps.storeA ?_)
    refine LWp.loop (fun k T S' => ∃ (T' : Nat → TV) (j : Nat) (o : Own), j ≤ n ∧ k = n - j ∧ S.le S' ∧ Owned S' 5 j o ∧ Out S o ∧ T = over T' [(0, .one (.sl .sh (l.map enL))), (1, .one (.sl .sh (m.map enL))), (2, .one (uv (d.toNat : Int))), (9, .one (.sl .sh (bL (encS l).1))), (11, .one (.sl .sh (bL (encS m).1))), (13, .one (iv (n : Nat))), (14, .one (.sl o (bL (List.replicate j d)))), (15, .one (iv (j : Nat)))]) n ?_ ?_
    · exact ⟨_, 0, .nil, by omega, rfl, .refl _, rfl, .nil _, holds.over ⟨rfl, rfl, rfl, rfl, rfl, rfl, rfl, rfl, trivial⟩⟩
    rintro k T S1 ⟨T', j, o, hj, rfl, hle, own, hout, rfl⟩
    repeat (first | refine LOps.nil ?_ | refine andThen_normal ?_ | refine andThen_exit ?_ | refine andThen_ret ?_ | refine inBlock_normal ?_ | refine inBlock_ret ?_ | refine inBlock_here ?_ | refine inBlock_out rfl ?_ | refine LWp.seq ?_ | refine LWp.region ?_ | refine LWp.block ?_ | refine LWp.exit ?_ | refine LWp.ret ?_ | refine LWp.skip ?_ | refine LOps.valA ?_ | refine LOps.outA ?_ | refine LOps.whenA ?_ | refine LOps.pickA ?_ | refine LOps.storeA ?_)
    refine LWp.cond rfl (fun h => ?_) (fun h => ?_)
    · have hlt : j < n := by simp at h; omega
      repeat (first | refine LOps.nil ?_ | refine andThen_normal ?_ | refine andThen_exit ?_ | refine andThen_ret ?_ | refine inBlock_normal ?_ | refine inBlock_ret ?_ | refine inBlock_here ?_ | refine inBlock_out rfl ?_ | refine LWp.seq ?_ | refine LWp.region ?_ | refine LWp.block ?_ | refine LWp.exit ?_ | refine LWp.ret ?_ | refine LWp.skip ?_ | refine LOps.valA ?_ | refine LOps.outA ?_ | refine LOps.whenA ?_ | refine LOps.pickA ?_ | refine LOps.storeA ?_)
      refine LOps.do (LDo.push hD rfl rfl rfl rfl rfl rfl rfl rfl rfl rfl (show _ = j by simp) own (by omega)) rfl rfl rfl ?_
      rintro _ S5 ⟨o5, rfl, own5, hup, hno⟩
      have hT : bL (List.replicate (j + 1) d) = bL (List.replicate j d) ++ [[uv (d.toNat : Int)]] := by rw [← rep_succ, bL_app]; rfl
      repeat (first | refine LOps.nil ?_ | refine andThen_normal ?_ | refine andThen_exit ?_ | refine andThen_ret ?_ | refine inBlock_normal ?_ | refine inBlock_ret ?_ | refine inBlock_here ?_ | refine inBlock_out rfl ?_ | refine LWp.seq ?_ | refine LWp.region ?_ | refine LWp.block ?_ | refine LWp.exit ?_ | refine LWp.ret ?_ | refine LWp.skip ?_ | refine LOps.valA ?_ | refine LOps.outA ?_ | refine LOps.whenA ?_ | refine LOps.pickA ?_ | refine LOps.storeA ?_)
      exact ⟨n - (j + 1), by omega, _, j + 1, o5, by omega, rfl, hle.upto hup hout, own5, hout.next hle hno, holds.over ⟨rfl, rfl, rfl, rfl, rfl, rfl, by rw [hT]; rfl, rfl, trivial⟩⟩
    · have hge : j = n := by simp at h; omega
      subst hge
      repeat (first | refine LOps.nil ?_ | refine andThen_normal ?_ | refine andThen_exit ?_ | refine andThen_ret ?_ | refine inBlock_normal ?_ | refine inBlock_ret ?_ | refine inBlock_here ?_ | refine inBlock_out rfl ?_ | refine LWp.seq ?_ | refine LWp.region ?_ | refine LWp.block ?_ | refine LWp.exit ?_ | refine LWp.ret ?_ | refine LWp.skip ?_ | refine LOps.valA ?_ | refine LOps.outA ?_ | refine LOps.whenA ?_ | refine LOps.pickA ?_ | refine LOps.storeA ?_)
      exact ⟨o, _, hle, holds.over ⟨rfl, rfl, rfl, rfl, rfl, trivial⟩⟩
  rintro T' S1 ⟨o, T'', hle, rfl⟩
  have hgl : (bL (List.replicate n d)).length = n := by rw [bL_len, List.length_replicate]
  have hbyl : ∀ bs : List UInt8, ∀ c ∈ bL bs, c.length = (1 : Nat) := byL_len
  repeat (first | refine LOps.nil ?_ | refine andThen_normal ?_ | refine andThen_exit ?_ | refine andThen_ret ?_ | refine inBlock_normal ?_ | refine inBlock_ret ?_ | refine inBlock_here ?_ | refine inBlock_out rfl ?_ | refine LWp.seq ?_ | refine LWp.region ?_ | refine LWp.block ?_ | refine LWp.exit ?_ | refine LWp.ret ?_ | refine LWp.skip ?_ | refine LOps.valA ?_ | refine LOps.outA ?_ | refine LOps.whenA ?_ | refine LOps.pickA ?_ | refine LOps.storeA ?_)
  refine LOps.do (LDo.appendN hD rfl rfl rfl rfl rfl rfl rfl rfl rfl (show [].length = 0 from rfl) hgl (show Owned S1 5 0 .nil from rfl) (hbyl _) (by omega)) rfl rfl rfl ?_
  rintro _ S2 ⟨o1, rfl, own1, -, -⟩
  rw [List.nil_append]
  repeat (first | refine LOps.nil ?_ | refine andThen_normal ?_ | refine andThen_exit ?_ | refine andThen_ret ?_ | refine inBlock_normal ?_ | refine inBlock_ret ?_ | refine inBlock_here ?_ | refine inBlock_out rfl ?_ | refine LWp.seq ?_ | refine LWp.region ?_ | refine LWp.block ?_ | refine LWp.exit ?_ | refine LWp.ret ?_ | refine LWp.skip ?_ | refine LOps.valA ?_ | refine LOps.outA ?_ | refine LOps.whenA ?_ | refine LOps.pickA ?_ | refine LOps.storeA ?_)
  refine LOps.do (LDo.appendN hD rfl rfl rfl rfl rfl rfl rfl rfl rfl (show _ = 0 + n by rw [hgl]; omega) hbx own1 (hbyl _) (by omega)) rfl rfl rfl ?_
  rintro _ S3 ⟨o2, rfl, own2, -, -⟩
  rw [← bL_app]
  repeat (first | refine LOps.nil ?_ | refine andThen_normal ?_ | refine andThen_exit ?_ | refine andThen_ret ?_ | refine inBlock_normal ?_ | refine inBlock_ret ?_ | refine inBlock_here ?_ | refine inBlock_out rfl ?_ | refine LWp.seq ?_ | refine LWp.region ?_ | refine LWp.block ?_ | refine LWp.exit ?_ | refine LWp.ret ?_ | refine LWp.skip ?_ | refine LOps.valA ?_ | refine LOps.outA ?_ | refine LOps.whenA ?_ | refine LOps.pickA ?_ | refine LOps.storeA ?_)
  refine LOps.do (LDo.appendN hD rfl rfl rfl rfl rfl rfl rfl rfl rfl (show _ = 0 + n + (encS l).1.length by rw [bL_len, List.length_append, List.length_replicate]; omega) hgl own2 (hbyl _) (by omega)) rfl rfl rfl ?_
  rintro _ S4 ⟨o3, rfl, own3, -, -⟩
  rw [← bL_app]
  repeat (first | refine LOps.nil ?_ | refine andThen_normal ?_ | refine andThen_exit ?_ | refine andThen_ret ?_ | refine inBlock_normal ?_ | refine inBlock_ret ?_ | refine inBlock_here ?_ | refine inBlock_out rfl ?_ | refine LWp.seq ?_ | refine LWp.region ?_ | refine LWp.block ?_ | refine LWp.exit ?_ | refine LWp.ret ?_ | refine LWp.skip ?_ | refine LOps.valA ?_ | refine LOps.outA ?_ | refine LOps.whenA ?_ | refine LOps.pickA ?_ | refine LOps.storeA ?_)
  refine LOps.do (LDo.appendN hD rfl rfl rfl rfl rfl rfl rfl rfl rfl (show _ = 0 + n + (encS l).1.length + n by rw [bL_len, List.length_append, List.length_append, List.length_replicate]; omega) hby own3 (hbyl _) (by omega)) rfl rfl rfl ?_
  rintro _ S5 ⟨o4, rfl, own4, -, -⟩
  rw [← bL_app]
  repeat (first | refine LOps.nil ?_ | refine andThen_normal ?_ | refine andThen_exit ?_ | refine andThen_ret ?_ | refine inBlock_normal ?_ | refine inBlock_ret ?_ | refine inBlock_here ?_ | refine inBlock_out rfl ?_ | refine LWp.seq ?_ | refine LWp.region ?_ | refine LWp.block ?_ | refine LWp.exit ?_ | refine LWp.ret ?_ | refine LWp.skip ?_ | refine LOps.valA ?_ | refine LOps.outA ?_ | refine LOps.whenA ?_ | refine LOps.pickA ?_ | refine LOps.storeA ?_)
  refine LOps.do (LDo.appendN hD rfl rfl rfl rfl rfl rfl rfl rfl rfl (show _ = 0 + n + (encS l).1.length + n + (encS m).1.length by rw [bL_len, List.length_append, List.length_append, List.length_append, List.length_replicate]; omega) hgl own4 (hbyl _) (by omega)) rfl rfl rfl ?_
  rintro _ S6 ⟨o5, rfl, own5, -, -⟩
  rw [← bL_app]
  have hall : (List.replicate n d ++ (encS l).1 ++ List.replicate n d ++ (encS m).1 ++ List.replicate n d).length ≤ 16384 := by
    simp only [List.length_append, List.length_replicate]; omega
  have hdn := decode_F hP (List.replicate n d ++ (encS l).1 ++ List.replicate n d ++ (encS m).1 ++ List.replicate n d) (by omega)
  have hdec : decodeS (List.replicate n d ++ (encS l).1 ++ List.replicate n d ++ (encS m).1 ++ List.replicate n d) = l ++ m := by
    rw [decodeS_dec, List.take_of_length_le hall, k3, j3]
    simp only [List.append_assoc]
    rw [dec_gaps hd0, dec_list k1, dec_gaps hd0, dec_list j1]
    have := dec_gaps hd0 n []
    rw [List.append_nil] at this
    rw [this, dec_nil, List.append_nil]
  rw [hdec] at hdn
  have hsA := same_F hP ((l ++ m).take (l.map enL).length) l (by rw [List.length_take]; omega) (fun e he => by
    rw [hml, List.take_left] at he
    have := enOK_writes (k1 e he); omega)
  rw [decide_eq_true (by rw [hml, List.take_left])] at hsA
  have hsB := same_F hP ((l ++ m).drop (l.map enL).length) m (by rw [hml, List.drop_left]; omega) (fun e he => by
    rw [hml, List.drop_left] at he
    have := enOK_writes (j1 e he); omega)
  rw [decide_eq_true (by rw [hml, List.drop_left])] at hsB
  have hmn : ((l ++ m).map enL).length = l.length + m.length := by rw [List.length_map, List.length_append]
  have hA : (l.map enL).length ≤ (l ++ m).length := by rw [hml, List.length_append]; omega
  repeat (first | refine LOps.nil ?_ | refine andThen_normal ?_ | refine andThen_exit ?_ | refine andThen_ret ?_ | refine inBlock_normal ?_ | refine inBlock_ret ?_ | refine inBlock_here ?_ | refine inBlock_out rfl ?_ | refine LWp.seq ?_ | refine LWp.region ?_ | refine LWp.block ?_ | refine LWp.exit ?_ | refine LWp.ret ?_ | refine LWp.skip ?_ | refine LOps.val (LVal.call rfl rfl (by rw [hP]; exact Try.func11) rfl (by decide) (hdn)) rfl rfl rfl ?_ | refine LOps.val (LVal.call rfl rfl (by rw [hP]; exact Try.func12) rfl (by decide) (hsA)) rfl rfl rfl ?_ | refine LOps.val (LVal.call rfl rfl (by rw [hP]; exact Try.func12) rfl (by decide) (hsB)) rfl rfl rfl ?_ | refine LOps.whenC (LVal.call rfl rfl (by rw [hP]; exact Try.func11) rfl (by decide) (hdn)) ?_ | refine LOps.whenC (LVal.call rfl rfl (by rw [hP]; exact Try.func12) rfl (by decide) (hsA)) ?_ | refine LOps.whenC (LVal.call rfl rfl (by rw [hP]; exact Try.func12) rfl (by decide) (hsB)) ?_ | refine LOps.valA ?_ | refine LOps.outA ?_ | refine LOps.whenA ?_ | refine LOps.pickA ?_ | refine LOps.storeA ?_)
  refine ⟨_, LRes.one rfl, ?_⟩
  show TV.one (bv ((((((l ++ m).map enL).length : Nat) : Int) == ((l.map enL).length : Int) + ((m.map enL).length : Int)) && true && true)) = _
  rw [hmn, hml, hmm]
  simp
end Go.Proofs.Ytbifiagpmoakdaa.LF

namespace Go.Proofs.Ytbifiagpmoakdaa
open Go.RowKit LF
theorem scriptSkips_walk (W : World) (v0 : Value) (l0 : List LV) (y0 : Typed LF.D 24 l0) (g0 : RepT (G0 Try.prog W) W (allCells W) (argTV ti24 l0) v0) (v1 : Value) (l1 : List LV) (y1 : Typed LF.D 24 l1) (g1 : RepT (G0 Try.prog W) W (allCells W) (argTV ti24 l1) v1)
    (v2 : Value) (l2 : List LV) (y2 : Typed LF.D 5 l2) (g2 : RepT (G0 Try.prog W) W (allCells W) (argTV ti5 l2) v2) (v3 : Value) (l3 : List LV) (y3 : Typed LF.D 5 l3) (g3 : RepT (G0 Try.prog W) W (allCells W) (argTV ti5 l3) v3) :
    Calls Try.prog 7 #[v0, v1, v2, v3] W fun e W' => e = .returned (.bool true) ∧ Below W.heap.size W W' := by
  obtain ⟨es, rfl, ht⟩ := typed_ens y0
  obtain ⟨fs, rfl, hf⟩ := typed_ens y1
  obtain ⟨c, rfl, wc⟩ := typed_int rfl rfl y2
  obtain ⟨t, rfl, wt⟩ := typed_int rfl rfl y3
  exact law_calls (fun G S h => skips_L h es ht fs hf c (wf_u8 wc) t (wf_u8 wt) S) (.cons (vs := [v1, v2, v3]) g0 (.cons (vs := [v2, v3]) g1 (.cons (vs := [v3]) g2 (.cons (vs := []) g3 .nil))))
end Go.Proofs.Ytbifiagpmoakdaa
