/- The walk of the law 'ScriptBack'. -/
import Derived.Test.YtbifiagpmoakdaaLSs
set_option linter.unusedVariables false
set_option linter.unusedSimpArgs false
namespace Go.Proofs.Ytbifiagpmoakdaa.LF
open Go.RowKit
set_option linter.unusedVariables false

theorem encS_ok {l : List En} (h : (encS l).2 = 0) : (∀ x ∈ l, enOK x) ∧ (lBytes l).length ≤ 16384 ∧ (encS l).1 = lBytes l := by
  unfold encS at h ⊢
  split at h
  · rename_i h1
    rw [List.all_eq_true] at h1
    split at h
    · rename_i h2
      exact ⟨fun x hx => okB_iff.1 (h1 x hx), h2, by rw [if_pos (by rw [List.all_eq_true]; exact h1), if_pos h2]⟩
    · cases h
  · cases h
theorem encS_of {l : List En} (h : ∀ x ∈ l, enOK x) (hl : (lBytes l).length ≤ 16384) : encS l = (lBytes l, 0) := by
  unfold encS
  rw [if_pos (by rw [List.all_eq_true]; exact fun x hx => okB_iff.2 (h x hx)), if_pos hl]
theorem decodeS_app {l : List En} (h : ∀ x ∈ l, enOK x) {b : List UInt8} (hl : (lBytes l ++ b).length ≤ 16384) : decodeS (lBytes l ++ b) = l ++ decodeS b := by
  rw [decodeS_dec, decodeS_dec, List.take_of_length_le hl, List.take_of_length_le (by rw [List.length_append] at hl; omega), dec_list h]
theorem decodeS_list {l : List En} (h : ∀ x ∈ l, enOK x) (hl : (lBytes l).length ≤ 16384) : decodeS (lBytes l) = l := by
  have := decodeS_app h (b := []) (by simpa using hl)
  rw [List.append_nil] at this
  rw [this, decodeS_dec, List.take_nil, dec_nil, List.append_nil]
theorem encS_len (l : List En) : (encS l).1.length ≤ 16384 := by
  unfold encS
  split
  · split
    · rename_i h; exact h
    · simp
  · simp
theorem encS_code (l : List En) : (encS l).2 ≤ 3 := by
  unfold encS
  split
  · split <;> simp
  · simp

theorem nb0 : noBytes.size = 0 := rfl
theorem opOK_b {x : OpV} (h : opOK x) : x.key.size ≤ 60001 ∧ x.val.size ≤ 60001 ∧ x.old.size ≤ 60001 ∧ ∀ w ∈ x.writes, WrB w := by
  unfold opOK at h
  split at h
  · rw [h.1]; simp [noOp, nb0]; omega
  split at h
  · rw [h.1]; simp [noOp, nb0]; omega
  split at h
  · rw [h.1]; simp [noOp, nb0]; omega
  split at h
  · rw [h.1]; simp [noOp, nb0]; omega
  split at h
  · obtain ⟨h1, _, h3⟩ := h
    rw [h1]
    exact ⟨by simp [noOp, nb0], by simp [noOp, nb0], by simp [noOp, nb0], fun w hw => ⟨by have := (h3 w hw).1; omega, by have := (h3 w hw).2.1; omega⟩⟩
  · exact h.elim
theorem enOK_b {x : En} (h : enOK x) : EnB x := by
  have hk := enOK_kind h
  have hw := enOK_writes h
  have ho : (0 ≤ x.op.kind ∧ x.op.kind < 256) ∧ x.op.key.size ≤ 60001 ∧ x.op.val.size ≤ 60001 ∧ x.op.old.size ≤ 60001 ∧ ∀ w ∈ x.op.writes, WrB w := by
    unfold enOK at h
    split at h
    · have := opOK_kind h.2
      exact ⟨⟨by omega, by omega⟩, opOK_b h.2⟩
    split at h
    · rw [h.1]; simp [noOp, nb0]
    split at h
    · rw [h.1]; simp [noOp, nb0]
    split at h
    · rw [h.1]; simp [noOp, nb0]
    split at h
    · rw [h.1]; simp [noOp, nb0]
    · exact h.elim
  exact ⟨⟨by omega, by omega⟩, ho.1, ho.2.1, ho.2.2.1, ho.2.2.2.1, by omega, ho.2.2.2.2⟩
theorem bL_app (a b : List UInt8) : bL (a ++ b) = bL a ++ bL b := List.map_append ..
theorem bL_len (a : List UInt8) : (bL a).length = a.length := List.length_map ..

set_option maxHeartbeats 8000000 in
theorem back_L {G : Ctx} (hP : G.P = Try.prog) (l : List En) (ht : ∀ x ∈ l, EnT x) (b : List UInt8) (S : LS) : LCalls G 6 [.one (.sl .sh (l.map enL)), .one (.sl .sh (bL b))] (fun r _ => r = .one (bv true)) S := by
  have hD : TabOK G.P D := by rw [hP]; exact hD0
  have hml : (l.map enL).length = l.length := List.length_map ..
  have hmb : (bL b).length = b.length := List.length_map ..
  refine LCalls.enter (fn := Try.f6) (by rw [hP]; exact Try.func6) rfl rfl ?_
  repeat (first | refine LOps.nil ?_ | refine andThen_normal ?_ | refine andThen_exit ?_ | refine andThen_ret ?_ | refine inBlock_normal ?_ | refine inBlock_ret ?_ | refine inBlock_here ?_ | refine inBlock_out rfl ?_ | refine LWp.seq ?_ | refine LWp.region ?_ | refine LWp.block ?_ | refine LWp.exit ?_ | refine LWp.ret ?_ | refine LWp.skip ?_ | refine LOps.val (LVal.call rfl rfl (by rw [hP]; exact Try.func10) rfl (by decide) (awake_F hP)) rfl rfl rfl ?_ | refine LOps.whenC (LVal.call rfl rfl (by rw [hP]; exact Try.func10) rfl (by decide) (awake_F hP)) ?_ | refine LOps.valA ?_ | refine LOps.outA ?_ | refine LOps.whenA ?_ | refine LOps.pickA ?_ | refine LOps.storeA ?_)
  refine LWp.cond rfl (fun h => ?_) (fun h => ?_)
  · simp at h
  repeat (first | refine LOps.nil ?_ | refine andThen_normal ?_ | refine andThen_exit ?_ | refine andThen_ret ?_ | refine inBlock_normal ?_ | refine inBlock_ret ?_ | refine inBlock_here ?_ | refine inBlock_out rfl ?_ | refine LWp.seq ?_ | refine LWp.region ?_ | refine LWp.block ?_ | refine LWp.exit ?_ | refine LWp.ret ?_ | refine LWp.skip ?_ | refine LOps.val (LVal.call rfl rfl (by rw [hP]; exact Try.func15) rfl (by decide) (great_F hP l)) rfl rfl rfl ?_ | refine LOps.whenC (LVal.call rfl rfl (by rw [hP]; exact Try.func15) rfl (by decide) (great_F hP l)) ?_ | refine LOps.valA ?_ | refine LOps.outA ?_ | refine LOps.whenA ?_ | refine LOps.pickA ?_ | refine LOps.storeA ?_)
  refine LWp.cond rfl (fun h => ?_) (fun h => ?_)
  · repeat (first | refine LOps.nil ?_ | refine andThen_normal ?_ | refine andThen_exit ?_ | refine andThen_ret ?_ | refine inBlock_normal ?_ | refine inBlock_ret ?_ | refine inBlock_here ?_ | refine inBlock_out rfl ?_ | refine LWp.seq ?_ | refine LWp.region ?_ | refine LWp.block ?_ | refine LWp.exit ?_ | refine LWp.ret ?_ | refine LWp.skip ?_ | refine LOps.valA ?_ | refine LOps.outA ?_ | refine LOps.whenA ?_ | refine LOps.pickA ?_ | refine LOps.storeA ?_)
    exact ⟨_, LRes.one rfl, rfl⟩
  have h : (greatS l || decide (((bL b).length : Int) > 20000)) = false := h
  rw [Bool.or_eq_false_iff, hmb] at h
  obtain ⟨hl3, hsm⟩ := greatS_small h.1
  have hb2 : b.length ≤ 20000 := by have := h.2; simp at this; omega
  clear h
  have hx : ∀ x ∈ l, EnB x := fun x hx => (hsm x hx).b (ht x hx)
  have he := encode_F hP l (by omega) hx
  have hlen := encS_len l
  have hok := encS_ok (l := l)
  have hdx := decode_F hP (encS l).1 (by omega)
  have hs1 := same_F hP (decodeS (encS l).1) l (by have := decodeS_len (encS l).1; omega) (decodeS_writes _)
  repeat (first | refine LOps.nil ?_ | refine andThen_normal ?_ | refine andThen_exit ?_ | refine andThen_ret ?_ | refine inBlock_normal ?_ | refine inBlock_ret ?_ | refine inBlock_here ?_ | refine inBlock_out rfl ?_ | refine LWp.seq ?_ | refine LWp.region ?_ | refine LWp.block ?_ | refine LWp.exit ?_ | refine LWp.ret ?_ | refine LWp.skip ?_ | refine LOps.val (LVal.call rfl rfl (by rw [hP]; exact Try.func14) rfl (by decide) (he)) rfl rfl rfl ?_ | refine LOps.val (LVal.call rfl rfl (by rw [hP]; exact Try.func11) rfl (by decide) (hdx)) rfl rfl rfl ?_ | refine LOps.val (LVal.call rfl rfl (by rw [hP]; exact Try.func12) rfl (by decide) (hs1)) rfl rfl rfl ?_ | refine LOps.whenC (LVal.call rfl rfl (by rw [hP]; exact Try.func14) rfl (by decide) (he)) ?_ | refine LOps.whenC (LVal.call rfl rfl (by rw [hP]; exact Try.func11) rfl (by decide) (hdx)) ?_ | refine LOps.whenC (LVal.call rfl rfl (by rw [hP]; exact Try.func12) rfl (by decide) (hs1)) ?_ | refine LOps.valA ?_ | refine LOps.outA ?_ | refine LOps.whenA ?_ | refine LOps.pickA ?_ | refine LOps.storeA ?_)
  refine LWp.cond rfl (fun h => ?_) (fun h => ?_)
  · exfalso
    have h : ((((encS l).2 : Nat) : Int) == 0 && !decide (decodeS (encS l).1 = l)) = true := h
    rw [Bool.and_eq_true, beq_iff_eq] at h
    obtain ⟨k1, k2, k3⟩ := hok (by omega)
    rw [k3, decodeS_list k1 k2] at h
    simp at h
  clear h hs1 hdx
  obtain ⟨m1, m2, m3⟩ := decodeS_right b
  have hdb := decode_F hP b (by omega)
  have hem := encode_F hP (decodeS b) (by have := decodeS_len b; omega) (fun x hx => enOK_b (m1 x hx))
  rw [encS_of m1 m3] at hem
  have hdm := decode_F hP (lBytes (decodeS b)) (by omega)
  rw [decodeS_list m1 m3] at hdm
  have hsm2 := same_F hP (decodeS b) (decodeS b) (by have := decodeS_len b; omega) (decodeS_writes b)
  rw [decide_eq_true rfl] at hsm2
  have hbm := bL_len (lBytes (decodeS b))
  repeat (first | refine LOps.nil ?_ | refine andThen_normal ?_ | refine andThen_exit ?_ | refine andThen_ret ?_ | refine inBlock_normal ?_ | refine inBlock_ret ?_ | refine inBlock_here ?_ | refine inBlock_out rfl ?_ | refine LWp.seq ?_ | refine LWp.region ?_ | refine LWp.block ?_ | refine LWp.exit ?_ | refine LWp.ret ?_ | refine LWp.skip ?_ | refine LOps.val (LVal.call rfl rfl (by rw [hP]; exact Try.func11) rfl (by decide) (hdb)) rfl rfl rfl ?_ | refine LOps.val (LVal.call rfl rfl (by rw [hP]; exact Try.func14) rfl (by decide) (hem)) rfl rfl rfl ?_ | refine LOps.val (LVal.call rfl rfl (by rw [hP]; exact Try.func11) rfl (by decide) (hdm)) rfl rfl rfl ?_ | refine LOps.val (LVal.call rfl rfl (by rw [hP]; exact Try.func12) rfl (by decide) (hsm2)) rfl rfl rfl ?_ | refine LOps.whenC (LVal.call rfl rfl (by rw [hP]; exact Try.func11) rfl (by decide) (hdb)) ?_ | refine LOps.whenC (LVal.call rfl rfl (by rw [hP]; exact Try.func14) rfl (by decide) (hem)) ?_ | refine LOps.whenC (LVal.call rfl rfl (by rw [hP]; exact Try.func11) rfl (by decide) (hdm)) ?_ | refine LOps.whenC (LVal.call rfl rfl (by rw [hP]; exact Try.func12) rfl (by decide) (hsm2)) ?_ | refine LOps.valA ?_ | refine LOps.outA ?_ | refine LOps.whenA ?_ | refine LOps.pickA ?_ | refine LOps.storeA ?_)
  refine LWp.cond rfl (fun h => ?_) (fun h => ?_)
  · exfalso
    have h : (((false || decide (((bL (lBytes (decodeS b))).length : Int) > ((bL b).length : Int))) || decide (((bL (lBytes (decodeS b))).length : Int) > 16384)) || !true) = true := h
    rw [hbm, hmb] at h
    simp at h
    omega
  clear h
  have hbx := bL_len (encS l).1
  repeat (first | refine LOps.nil ?_ | refine andThen_normal ?_ | refine andThen_exit ?_ | refine andThen_ret ?_ | refine inBlock_normal ?_ | refine inBlock_ret ?_ | refine inBlock_here ?_ | refine inBlock_out rfl ?_ | refine LWp.seq ?_ | refine LWp.region ?_ | refine LWp.block ?_ | refine LWp.exit ?_ | refine LWp.ret ?_ | refine LWp.skip ?_ | refine LOps.valA ?_ | refine LOps.outA ?_ | refine LOps.whenA ?_ | refine LOps.pickA ?_ | refine LOps.storeA ?_)
  refine LWp.cond rfl (fun h => ?_) (fun h => ?_)
  · repeat (first | refine LOps.nil ?_ | refine andThen_normal ?_ | refine andThen_exit ?_ | refine andThen_ret ?_ | refine inBlock_normal ?_ | refine inBlock_ret ?_ | refine inBlock_here ?_ | refine inBlock_out rfl ?_ | refine LWp.seq ?_ | refine LWp.region ?_ | refine LWp.block ?_ | refine LWp.exit ?_ | refine LWp.ret ?_ | refine LWp.skip ?_ | refine LOps.valA ?_ | refine LOps.outA ?_ | refine LOps.whenA ?_ | refine LOps.pickA ?_ | refine LOps.storeA ?_)
    exact ⟨_, LRes.one rfl, rfl⟩
  have h : (!((((encS l).2 : Nat) : Int) == 0) || decide (((bL (encS l).1).length : Int) + ((bL b).length : Int) > 16384)) = false := h
  rw [Bool.or_eq_false_iff, hbx, hmb] at h
  obtain ⟨k1, k2, k3⟩ := hok (by have := h.1; simp at this; omega)
  have htot : (encS l).1.length + b.length ≤ 16384 := by have := h.2; simp at this; omega
  clear h
  repeat (first | refine LOps.do (LDo.emptySlice hD rfl rfl rfl rfl rfl rfl rfl) rfl rfl rfl ?_ | refine LOps.nil ?_ | refine andThen_normal ?_ | refine andThen_exit ?_ | refine andThen_ret ?_ | refine inBlock_normal ?_ | refine inBlock_ret ?_ | refine inBlock_here ?_ | refine inBlock_out rfl ?_ | refine LWp.seq ?_ | refine LWp.region ?_ | refine LWp.block ?_ | refine LWp.exit ?_ | refine LWp.ret ?_ | refine LWp.skip ?_ | refine LOps.valA ?_ | refine LOps.outA ?_ | refine LOps.whenA ?_ | refine LOps.pickA ?_ | refine LOps.storeA ?_)
  rintro _ _ ⟨br, hbr, rfl, rfl⟩
  repeat (first | refine LOps.nil ?_ | refine andThen_normal ?_ | refine andThen_exit ?_ | refine andThen_ret ?_ | refine inBlock_normal ?_ | refine inBlock_ret ?_ | refine inBlock_here ?_ | refine inBlock_out rfl ?_ | refine LWp.seq ?_ | refine LWp.region ?_ | refine LWp.block ?_ | refine LWp.exit ?_ | refine LWp.ret ?_ | refine LWp.skip ?_ | refine LOps.valA ?_ | refine LOps.outA ?_ | refine LOps.whenA ?_ | refine LOps.pickA ?_ | refine LOps.storeA ?_)
  refine LOps.do (LDo.appendN hD rfl rfl rfl rfl rfl rfl rfl rfl rfl (show [].length = 0 from rfl) hbx (.new _ _ _ _) (byL_len _) (by omega)) rfl rfl rfl ?_
  rintro _ S2 ⟨o1, rfl, hown, hup, hno⟩
  repeat (first | refine LOps.nil ?_ | refine andThen_normal ?_ | refine andThen_exit ?_ | refine andThen_ret ?_ | refine inBlock_normal ?_ | refine inBlock_ret ?_ | refine inBlock_here ?_ | refine inBlock_out rfl ?_ | refine LWp.seq ?_ | refine LWp.region ?_ | refine LWp.block ?_ | refine LWp.exit ?_ | refine LWp.ret ?_ | refine LWp.skip ?_ | refine LOps.valA ?_ | refine LOps.outA ?_ | refine LOps.whenA ?_ | refine LOps.pickA ?_ | refine LOps.storeA ?_)
  refine LOps.do (LDo.appendN hD rfl rfl rfl rfl rfl rfl rfl rfl rfl (show _ = 0 + (encS l).1.length by rw [List.nil_append, hbx]; omega) hmb hown (byL_len _) (by omega)) rfl rfl rfl ?_
  rintro _ S3 ⟨o2, rfl, hown2, hup2, hno2⟩
  have hdn := decode_F hP ((encS l).1 ++ b) (by rw [List.length_append]; omega)
  have hdec : decodeS ((encS l).1 ++ b) = l ++ decodeS b := by rw [k3]; exact decodeS_app k1 (by rw [← k3, List.length_append]; omega)
  rw [hdec, bL_app] at hdn
  have hsA := same_F hP ((l ++ decodeS b).take (l.map enL).length) l (by rw [List.length_take]; omega) (fun e he => by
    rw [hml, List.take_left] at he
    have := (hx e he).n
    have := enOK_writes (k1 e he); omega)
  rw [decide_eq_true (by rw [hml, List.take_left])] at hsA
  have hsB := same_F hP ((l ++ decodeS b).drop (l.map enL).length) (decodeS b) (by have := decodeS_len b; rw [hml, List.drop_left]; omega) (fun e he => by rw [hml, List.drop_left] at he; exact decodeS_writes b e he)
  rw [decide_eq_true (by rw [hml, List.drop_left])] at hsB
  have hmn : ((l ++ decodeS b).map enL).length = l.length + (decodeS b).length := by rw [List.length_map, List.length_append]
  have hmd : ((decodeS b).map enL).length = (decodeS b).length := List.length_map ..
  have hA : (l.map enL).length ≤ (l ++ decodeS b).length := by rw [hml, List.length_append]; omega
  have hdl := decodeS_len b
  repeat (first | refine LOps.nil ?_ | refine andThen_normal ?_ | refine andThen_exit ?_ | refine andThen_ret ?_ | refine inBlock_normal ?_ | refine inBlock_ret ?_ | refine inBlock_here ?_ | refine inBlock_out rfl ?_ | refine LWp.seq ?_ | refine LWp.region ?_ | refine LWp.block ?_ | refine LWp.exit ?_ | refine LWp.ret ?_ | refine LWp.skip ?_ | refine LOps.val (LVal.call rfl rfl (by rw [hP]; exact Try.func11) rfl (by decide) (hdn)) rfl rfl rfl ?_ | refine LOps.val (LVal.call rfl rfl (by rw [hP]; exact Try.func12) rfl (by decide) (hsA)) rfl rfl rfl ?_ | refine LOps.val (LVal.call rfl rfl (by rw [hP]; exact Try.func12) rfl (by decide) (hsB)) rfl rfl rfl ?_ | refine LOps.whenC (LVal.call rfl rfl (by rw [hP]; exact Try.func11) rfl (by decide) (hdn)) ?_ | refine LOps.whenC (LVal.call rfl rfl (by rw [hP]; exact Try.func12) rfl (by decide) (hsA)) ?_ | refine LOps.whenC (LVal.call rfl rfl (by rw [hP]; exact Try.func12) rfl (by decide) (hsB)) ?_ | refine LOps.valA ?_ | refine LOps.outA ?_ | refine LOps.whenA ?_ | refine LOps.pickA ?_ | refine LOps.storeA ?_)
  refine ⟨_, LRes.one rfl, ?_⟩
  show TV.one (bv ((((((l ++ decodeS b).map enL).length : Nat) : Int) == ((l.map enL).length : Int) + (((decodeS b).map enL).length : Int)) && true && true)) = _
  rw [hmn, hml, hmd]
  simp
end Go.Proofs.Ytbifiagpmoakdaa.LF

namespace Go.Proofs.Ytbifiagpmoakdaa
open Go.RowKit LF
theorem scriptBack_walk (W : World) (v0 : Value) (l0 : List LV) (y0 : Typed LF.D 24 l0) (g0 : RepT (G0 Try.prog W) W (allCells W) (argTV ti24 l0) v0) (v1 : Value) (l1 : List LV) (y1 : Typed LF.D 22 l1) (g1 : RepT (G0 Try.prog W) W (allCells W) (argTV ti22 l1) v1) :
    Calls Try.prog 6 #[v0, v1] W fun e W' => e = .returned (.bool true) ∧ Below W.heap.size W W' := by
  obtain ⟨es, rfl, ht⟩ := typed_ens y0
  obtain ⟨bs, rfl⟩ := typed_bytes y1
  exact law_calls (fun G S h => back_L h es ht bs S) (.cons (vs := [v1]) g0 (.cons (vs := []) g1 .nil))
end Go.Proofs.Ytbifiagpmoakdaa
