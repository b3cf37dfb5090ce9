/- The walk of the law 'ScriptReads'. -/
import Derived.Test.YtbifiagpmoakdaaLSl
import Derived.Test.YtbifiagpmoakdaaLSp
set_option linter.unusedVariables false
set_option linter.unusedSimpArgs false
namespace Go.Proofs.Ytbifiagpmoakdaa.LF
open Go.RowKit

theorem opOK_writes {x : OpV} (h : opOK x) : x.writes.length < 256 := by
  unfold opOK at h
  split at h
  · rw [h.1]; simp [noOp]
  split at h
  · rw [h.1]; simp [noOp]
  split at h
  · rw [h.1]; simp [noOp]
  split at h
  · rw [h.1]; simp [noOp]
  split at h
  · exact h.2.1
  · exact h.elim
theorem enOK_writes {x : En} (h : enOK x) : x.op.writes.length < 256 := by
  unfold enOK at h
  split at h
  · exact opOK_writes h.2
  split at h
  · rw [h.1]; simp [noOp]
  split at h
  · rw [h.1]; simp [noOp]
  split at h
  · rw [h.1]; simp [noOp]
  split at h
  · rw [h.1]; simp [noOp]
  · exact h.elim
theorem enBytes_pos (x : En) : 0 < (enBytes x).length := by simp [enBytes]
theorem lBytes_len : ∀ (l : List En), l.length ≤ (lBytes l).length
  | [] => Nat.le_refl _
  | x :: l => by
    have := lBytes_len l
    have := enBytes_pos x
    rw [lBytes_cons, List.length_append, List.length_cons]; omega
theorem decodeS_right (bs : List UInt8) : (∀ x ∈ decodeS bs, enOK x) ∧ (lBytes (decodeS bs)).length ≤ bs.length ∧ (lBytes (decodeS bs)).length ≤ 16384 := by
  obtain ⟨h1, h2⟩ := dec_right (bs := bs.take 16384) (bs.take 16384).length 0 (Nat.zero_le _) (by omega)
  rw [← decodeS_dec] at h1 h2
  have : (bs.take 16384).length ≤ 16384 ∧ (bs.take 16384).length ≤ bs.length := by rw [List.length_take]; omega
  exact ⟨h1, by omega, by omega⟩
theorem decodeS_len (bs : List UInt8) : (decodeS bs).length ≤ 16384 := by
  have := lBytes_len (decodeS bs)
  have := (decodeS_right bs).2.2
  omega
theorem decodeS_writes (bs : List UInt8) : ∀ e ∈ decodeS bs, e.op.writes.length < 1000000 := fun e he => by
  have := enOK_writes ((decodeS_right bs).1 e he)
  omega
theorem typed_bytes {l : List LV} (h : Typed D 22 l) : ∃ bs : List UInt8, l = [.sl .sh (bL bs)] := by
  obtain ⟨es, rfl, h1, _⟩ := typed_slice (i := ti22) (j := ti5) rfl rfl rfl h
  obtain ⟨bs, rfl⟩ := typed_all (f := byL) h1 fun c hc => by
    obtain ⟨n, rfl, hn⟩ := typed_int (i := ti5) rfl rfl hc
    simp [Lit.wf, IntKind.min, IntKind.max, IntKind.signed, IntKind.bits] at hn
    refine ⟨UInt8.ofNat n.toNat, ?_⟩
    simp only [byL, UInt8.toNat_ofNat']
    congr 3
    omega
  exact ⟨bs, rfl⟩

set_option maxHeartbeats 4000000 in
theorem reads_L {G : Ctx} (hP : G.P = Try.prog) (bs : List UInt8) (S : LS) : LCalls G 3 [.one (.sl .sh (bL bs))] (fun r _ => r = .one (bv true)) S := by
  have hD : TabOK G.P D := by rw [hP]; exact hD0
  have hml : (bL bs).length = bs.length := List.length_map ..
  refine LCalls.enter (fn := Try.f3) (by rw [hP]; exact Try.func3) rfl rfl ?_
  repeat (first | refine LOps.nil ?_ | refine andThen_normal ?_ | refine andThen_exit ?_ | refine andThen_ret ?_ | refine inBlock_normal ?_ | refine inBlock_ret ?_ | refine inBlock_here ?_ | refine inBlock_out rfl ?_ | refine LWp.seq ?_ | refine LWp.region ?_ | refine LWp.block ?_ | refine LWp.exit ?_ | refine LWp.ret ?_ | refine LWp.skip ?_ | refine LOps.val (LVal.call rfl rfl (by rw [hP]; exact Try.func10) rfl (by decide) (awake_F hP)) rfl rfl rfl ?_ | refine LOps.whenC (LVal.call rfl rfl (by rw [hP]; exact Try.func10) rfl (by decide) (awake_F hP)) ?_ | refine LOps.valA ?_ | refine LOps.outA ?_ | refine LOps.whenA ?_ | refine LOps.pickA ?_ | refine LOps.storeA ?_)
  refine LWp.cond rfl (fun h => ?_) (fun h => ?_)
  · simp at h
  repeat (first | refine LOps.nil ?_ | refine andThen_normal ?_ | refine andThen_exit ?_ | refine andThen_ret ?_ | refine inBlock_normal ?_ | refine inBlock_ret ?_ | refine inBlock_here ?_ | refine inBlock_out rfl ?_ | refine LWp.seq ?_ | refine LWp.region ?_ | refine LWp.block ?_ | refine LWp.exit ?_ | refine LWp.ret ?_ | refine LWp.skip ?_ | refine LOps.valA ?_ | refine LOps.outA ?_ | refine LOps.whenA ?_ | refine LOps.pickA ?_ | refine LOps.storeA ?_)
  refine LWp.cond rfl (fun h => ?_) (fun h => ?_)
  · repeat (first | refine LOps.nil ?_ | refine andThen_normal ?_ | refine andThen_exit ?_ | refine andThen_ret ?_ | refine inBlock_normal ?_ | refine inBlock_ret ?_ | refine inBlock_here ?_ | refine inBlock_out rfl ?_ | refine LWp.seq ?_ | refine LWp.region ?_ | refine LWp.block ?_ | refine LWp.exit ?_ | refine LWp.ret ?_ | refine LWp.skip ?_ | refine LOps.valA ?_ | refine LOps.outA ?_ | refine LOps.whenA ?_ | refine LOps.pickA ?_ | refine LOps.storeA ?_)
    exact ⟨_, LRes.one rfl, rfl⟩
  have hb : bs.length ≤ 20000 := by
    have h : decide (((bL bs).length : Int) > 20000) = false := h
    rw [hml] at h
    simp at h; omega
  repeat (first | refine LOps.nil ?_ | refine andThen_normal ?_ | refine andThen_exit ?_ | refine andThen_ret ?_ | refine inBlock_normal ?_ | refine inBlock_ret ?_ | refine inBlock_here ?_ | refine inBlock_out rfl ?_ | refine LWp.seq ?_ | refine LWp.region ?_ | refine LWp.block ?_ | refine LWp.exit ?_ | refine LWp.ret ?_ | refine LWp.skip ?_ | refine LOps.valA ?_ | refine LOps.outA ?_ | refine LOps.whenA ?_ | refine LOps.pickA ?_ | refine LOps.storeA ?_)
  refine LOps.do (LDo.emptySlice hD rfl rfl rfl rfl rfl rfl rfl) rfl rfl rfl ?_
  rintro _ _ ⟨br, hbr, rfl, rfl⟩
  repeat (first | refine LOps.nil ?_ | refine andThen_normal ?_ | refine andThen_exit ?_ | refine andThen_ret ?_ | refine inBlock_normal ?_ | refine inBlock_ret ?_ | refine inBlock_here ?_ | refine inBlock_out rfl ?_ | refine LWp.seq ?_ | refine LWp.region ?_ | refine LWp.block ?_ | refine LWp.exit ?_ | refine LWp.ret ?_ | refine LWp.skip ?_ | refine LOps.valA ?_ | refine LOps.outA ?_ | refine LOps.whenA ?_ | refine LOps.pickA ?_ | refine LOps.storeA ?_)
  refine LOps.do (LDo.appendN hD rfl rfl rfl rfl rfl rfl rfl rfl rfl (show [].length = 0 from rfl) (show _ = bs.length by simp) (.new _ _ _ _) (byL_len bs) (by omega)) rfl rfl rfl ?_
  rintro _ S2 ⟨o', rfl, hown, hup, hno⟩
  have hd := decode_F hP bs (by omega)
  have hrd := refDecode_F hP bs (by omega)
  have hsm := same_F hP (decodeS bs) (decodeS bs) (by have := decodeS_len bs; omega) (decodeS_writes bs)
  rw [decide_eq_true rfl] at hsm
  repeat (first | refine LOps.whenC (LVal.bytesStr hD rfl rfl rfl rfl rfl rfl rfl rfl) ?_ | refine LOps.nil ?_ | refine andThen_normal ?_ | refine andThen_exit ?_ | refine andThen_ret ?_ | refine inBlock_normal ?_ | refine inBlock_ret ?_ | refine inBlock_here ?_ | refine inBlock_out rfl ?_ | refine LWp.seq ?_ | refine LWp.region ?_ | refine LWp.block ?_ | refine LWp.exit ?_ | refine LWp.ret ?_ | refine LWp.skip ?_ | refine LOps.val (LVal.call rfl rfl (by rw [hP]; exact Try.func11) rfl (by decide) (hd)) rfl rfl rfl ?_ | refine LOps.val (LVal.call rfl rfl (by rw [hP]; exact Try.func13) rfl (by decide) (hrd)) rfl rfl rfl ?_ | refine LOps.val (LVal.call rfl rfl (by rw [hP]; exact Try.func12) rfl (by decide) (hsm)) rfl rfl rfl ?_ | refine LOps.whenC (LVal.call rfl rfl (by rw [hP]; exact Try.func11) rfl (by decide) (hd)) ?_ | refine LOps.whenC (LVal.call rfl rfl (by rw [hP]; exact Try.func13) rfl (by decide) (hrd)) ?_ | refine LOps.whenC (LVal.call rfl rfl (by rw [hP]; exact Try.func12) rfl (by decide) (hsm)) ?_ | refine LOps.valA ?_ | refine LOps.outA ?_ | refine LOps.whenA ?_ | refine LOps.pickA ?_ | refine LOps.storeA ?_)
  refine ⟨_, LRes.one rfl, ?_⟩
  show TV.one (bv (true && decide ((⟨bs.toArray⟩ : ByteArray) = ⟨bs.toArray⟩))) = _
  rw [decide_eq_true rfl]; rfl
end Go.Proofs.Ytbifiagpmoakdaa.LF

namespace Go.Proofs.Ytbifiagpmoakdaa
open Go.RowKit LF
theorem scriptReads_walk (W : World) (v0 : Value) (l0 : List LV) (y0 : Typed LF.D 22 l0) (g0 : RepT (G0 Try.prog W) W (allCells W) (argTV ti22 l0) v0) :
    Calls Try.prog 3 #[v0] W fun e W' => e = .returned (.bool true) ∧ Below W.heap.size W W' := by
  obtain ⟨bs, rfl⟩ := typed_bytes y0
  exact law_calls (fun G S h => reads_L h bs S) (.cons (vs := []) g0 .nil)
end Go.Proofs.Ytbifiagpmoakdaa
