/- The walk of the law 'ScriptCut'. -/
import Derived.Test.YtbifiagpmoakdaaLSt
set_option linter.unusedVariables false
set_option linter.unusedSimpArgs false
namespace Go.Proofs.Ytbifiagpmoakdaa.LF
open Go.RowKit
set_option linter.unusedVariables false

theorem lBytes_take (l : List En) (j : Nat) : lBytes l = lBytes (l.take j) ++ lBytes (l.drop j) := by
  rw [← lBytes_app, List.take_append_drop]
theorem lBytes_take_le (l : List En) (j : Nat) : (lBytes (l.take j)).length ≤ (lBytes l).length := by
  rw [lBytes_take l j, List.length_append]; omega
theorem lBytes_one (x : En) : lBytes [x] = enBytes x := by simp [lBytes]
theorem cut_one {α : Type} {l : List α} {j : Nat} (h : j < l.length) : (l.drop j).take 1 = [l[j]] := by
  rw [List.drop_eq_getElem_cons h]; rfl

set_option maxHeartbeats 8000000 in
theorem cut_L {G : Ctx} (hP : G.P = Try.prog) (l : List En) (ht : ∀ x ∈ l, EnT x) (a : Int) (S : LS) : LCalls G 8 [.one (.sl .sh (l.map enL)), .one (iv a)] (fun r _ => r = .one (bv true)) S := by
  have hD : TabOK G.P D := by rw [hP]; exact hD0
  have hml : (l.map enL).length = l.length := List.length_map ..
  refine LCalls.enter (fn := Try.f8) (by rw [hP]; exact Try.func8) rfl rfl ?_
  repeat (first | refine LOps.nil ?_ | refine andThen_normal ?_ | refine andThen_exit ?_ | refine andThen_ret ?_ | refine inBlock_normal ?_ | refine inBlock_ret ?_ | refine inBlock_here ?_ | refine inBlock_out rfl ?_ | refine LWp.seq ?_ | refine LWp.region ?_ | refine LWp.block ?_ | refine LWp.exit ?_ | refine LWp.ret ?_ | refine LWp.skip ?_ | refine LOps.val (LVal.call rfl rfl (by rw [hP]; exact Try.func10) rfl (by decide) (awake_F hP)) rfl rfl rfl ?_ | refine LOps.whenC (LVal.call rfl rfl (by rw [hP]; exact Try.func10) rfl (by decide) (awake_F hP)) ?_ | refine LOps.valA ?_ | refine LOps.outA ?_ | refine LOps.whenA ?_ | refine LOps.pickA ?_ | refine LOps.storeA ?_)
  refine LWp.cond rfl (fun h => ?_) (fun h => ?_)
  · simp at h
  repeat (first | refine LOps.nil ?_ | refine andThen_normal ?_ | refine andThen_exit ?_ | refine andThen_ret ?_ | refine inBlock_normal ?_ | refine inBlock_ret ?_ | refine inBlock_here ?_ | refine inBlock_out rfl ?_ | refine LWp.seq ?_ | refine LWp.region ?_ | refine LWp.block ?_ | refine LWp.exit ?_ | refine LWp.ret ?_ | refine LWp.skip ?_ | refine LOps.val (LVal.call rfl rfl (by rw [hP]; exact Try.func15) rfl (by decide) (great_F hP l)) rfl rfl rfl ?_ | refine LOps.whenC (LVal.call rfl rfl (by rw [hP]; exact Try.func15) rfl (by decide) (great_F hP l)) ?_ | refine LOps.valA ?_ | refine LOps.outA ?_ | refine LOps.whenA ?_ | refine LOps.pickA ?_ | refine LOps.storeA ?_)
  refine LWp.cond rfl (fun h => ?_) (fun h => ?_)
  · repeat (first | refine LOps.nil ?_ | refine andThen_normal ?_ | refine andThen_exit ?_ | refine andThen_ret ?_ | refine inBlock_normal ?_ | refine inBlock_ret ?_ | refine inBlock_here ?_ | refine inBlock_out rfl ?_ | refine LWp.seq ?_ | refine LWp.region ?_ | refine LWp.block ?_ | refine LWp.exit ?_ | refine LWp.ret ?_ | refine LWp.skip ?_ | refine LOps.valA ?_ | refine LOps.outA ?_ | refine LOps.whenA ?_ | refine LOps.pickA ?_ | refine LOps.storeA ?_)
    exact ⟨_, LRes.one rfl, rfl⟩
  obtain ⟨hl3, hsl⟩ := greatS_small h
  clear h
  have hx : ∀ x ∈ l, EnB x := fun x hx => (hsl x hx).b (ht x hx)
  have he := encode_F hP l (by omega) hx
  have hlx := encS_len l
  have hbx := bL_len (encS l).1
  repeat (first | refine LOps.nil ?_ | refine andThen_normal ?_ | refine andThen_exit ?_ | refine andThen_ret ?_ | refine inBlock_normal ?_ | refine inBlock_ret ?_ | refine inBlock_here ?_ | refine inBlock_out rfl ?_ | refine LWp.seq ?_ | refine LWp.region ?_ | refine LWp.block ?_ | refine LWp.exit ?_ | refine LWp.ret ?_ | refine LWp.skip ?_ | refine LOps.val (LVal.call rfl rfl (by rw [hP]; exact Try.func14) rfl (by decide) (he)) rfl rfl rfl ?_ | refine LOps.whenC (LVal.call rfl rfl (by rw [hP]; exact Try.func14) rfl (by decide) (he)) ?_ | refine LOps.valA ?_ | refine LOps.outA ?_ | refine LOps.whenA ?_ | refine LOps.pickA ?_ | refine LOps.storeA ?_)
  refine LWp.cond rfl (fun h => ?_) (fun h => ?_)
  · repeat (first | refine LOps.nil ?_ | refine andThen_normal ?_ | refine andThen_exit ?_ | refine andThen_ret ?_ | refine inBlock_normal ?_ | refine inBlock_ret ?_ | refine inBlock_here ?_ | refine inBlock_out rfl ?_ | refine LWp.seq ?_ | refine LWp.region ?_ | refine LWp.block ?_ | refine LWp.exit ?_ | refine LWp.ret ?_ | refine LWp.skip ?_ | refine LOps.valA ?_ | refine LOps.outA ?_ | refine LOps.whenA ?_ | refine LOps.pickA ?_ | refine LOps.storeA ?_)
    exact ⟨_, LRes.one rfl, rfl⟩
  have h : ((!((((encS l).2 : Nat) : Int) == 0) || decide (a < 0)) || decide (a > ((bL (encS l).1).length : Int))) = false := h
  rw [Bool.or_eq_false_iff, Bool.or_eq_false_iff, hbx] at h
  obtain ⟨k1, k2, k3⟩ := encS_ok (l := l) (by have := h.1.1; simp at this; omega)
  have ha0 : 0 ≤ a := by have := of_decide_eq_false h.1.2; omega
  obtain ⟨n, rfl⟩ := Int.eq_ofNat_of_zero_le ha0
  have han : n ≤ (encS l).1.length := by have := of_decide_eq_false h.2; omega
  clear h ha0
  rw [k3] at han hbx hlx ⊢
  repeat (first | refine LWp.seq (LWp.cut 10 (fun T' S' => S' = S ∧ ∃ (w : Nat) (T'' : Nat → TV), w ≤ l.length ∧ (lBytes (l.take w)).length ≤ n ∧ T' = over T'' [(0, .one (.sl .sh (l.map enL))), (1, .one (iv (n : Nat))), (5, .one (.sl .sh (bL (lBytes l)))), (7, .one (iv (w : Nat)))]) rfl ?_ ?_) | refine LOps.nil ?_ | refine andThen_normal ?_ | refine andThen_exit ?_ | refine andThen_ret ?_ | refine inBlock_normal ?_ | refine inBlock_ret ?_ | refine inBlock_here ?_ | refine inBlock_out rfl ?_ | refine LWp.seq ?_ | refine LWp.region ?_ | refine LWp.block ?_ | refine LWp.exit ?_ | refine LWp.ret ?_ | refine LWp.skip ?_ | refine LOps.valA ?_ | refine LOps.outA ?_ | refine LOps.whenA ?_ | refine LOps.pickA ?_ | refine LOps.storeA ?_)
  · repeat (first | refine LOps.nil ?_ | refine andThen_normal ?_ | refine andThen_exit ?_ | refine andThen_ret ?_ | refine inBlock_normal ?_ | refine inBlock_ret ?_ | refine inBlock_here ?_ | refine inBlock_out rfl ?_ | refine LWp.seq ?_ | refine LWp.region ?_ | refine LWp.block ?_ | refine LWp.exit ?_ | refine LWp.ret ?_ | refine LWp.skip ?_ | refine LOps.valA ?_ | refine LOps.outA ?_ | refine LOps.whenA ?_ | refine LOps.pickA ?_ | refine LOps.storeA ?_)
    refine LWp.loop (fun k T S' => S' = S ∧ ∃ (T' : Nat → TV) (j : Nat), j ≤ l.length ∧ k = l.length - j ∧ (lBytes (l.take j)).length ≤ n ∧ T = over T' [(0, .one (.sl .sh (l.map enL))), (1, .one (iv (n : Nat))), (5, .one (.sl .sh (bL (lBytes l)))), (7, .one (iv (j : Nat))), (8, .one (iv ((lBytes (l.take j)).length : Nat))), (9, .one (iv (j : Nat)))]) l.length ?_ ?_
    · exact ⟨rfl, _, 0, by omega, rfl, by simp [lBytes], holds.over ⟨rfl, rfl, rfl, rfl, rfl, rfl, trivial⟩⟩
    rintro k T S1 ⟨rfl, T', j, hj, rfl, hjn, rfl⟩
    repeat (first | refine LOps.nil ?_ | refine andThen_normal ?_ | refine andThen_exit ?_ | refine andThen_ret ?_ | refine inBlock_normal ?_ | refine inBlock_ret ?_ | refine inBlock_here ?_ | refine inBlock_out rfl ?_ | refine LWp.seq ?_ | refine LWp.region ?_ | refine LWp.block ?_ | refine LWp.exit ?_ | refine LWp.ret ?_ | refine LWp.skip ?_ | refine LOps.valA ?_ | refine LOps.outA ?_ | refine LOps.whenA ?_ | refine LOps.pickA ?_ | refine LOps.storeA ?_)
    refine LWp.cond rfl (fun h => ?_) (fun h => ?_)
    · have hlt : j < l.length := by simpa using h
      have hjb := hx _ (List.getElem_mem hlt)
      have hjok := k1 _ (List.getElem_mem hlt)
      have hnx : lBytes (l.take (j + 1)) = lBytes (l.take j) ++ enBytes l[j] := by
        rw [List.take_succ_eq_append_getElem hlt, lBytes_app, lBytes_one]
      have hle1 := lBytes_take_le l (j + 1)
      rw [hnx, List.length_append] at hle1
      have hone := encode_F hP [l[j]] (by simp) (fun x hx => by obtain rfl : x = l[j] := (by simpa using hx); exact hjb)
      rw [encS_of (l := [l[j]]) (fun x hx => by obtain rfl : x = l[j] := (by simpa using hx); exact hjok) (by rw [lBytes_one]; omega), lBytes_one] at hone
      dsimp only at hone
      have hbe := bL_len (enBytes l[j])
      repeat (first | refine LOps.val (r := .one (.sl .sh ([l[j]].map enL))) (LVal.to (LVal.cutMap (m := j) (n := j + 1) hD rfl rfl rfl rfl rfl rfl rfl (by omega) (by omega) rfl (fun _ _ => rfl)) (by rw [show j + 1 - j = 1 by omega, cut_one hlt])) rfl rfl rfl ?_ | refine LOps.nil ?_ | refine andThen_normal ?_ | refine andThen_exit ?_ | refine andThen_ret ?_ | refine inBlock_normal ?_ | refine inBlock_ret ?_ | refine inBlock_here ?_ | refine inBlock_out rfl ?_ | refine LWp.seq ?_ | refine LWp.region ?_ | refine LWp.block ?_ | refine LWp.exit ?_ | refine LWp.ret ?_ | refine LWp.skip ?_ | refine LOps.val (LVal.call rfl rfl (by rw [hP]; exact Try.func14) rfl (by decide) (hone)) rfl rfl rfl ?_ | refine LOps.whenC (LVal.call rfl rfl (by rw [hP]; exact Try.func14) rfl (by decide) (hone)) ?_ | refine LOps.valA ?_ | refine LOps.outA ?_ | refine LOps.whenA ?_ | refine LOps.pickA ?_ | refine LOps.storeA ?_)
      refine LWp.cond rfl (fun h => ?_) (fun h => ?_)
      · repeat (first | refine LOps.nil ?_ | refine andThen_normal ?_ | refine andThen_exit ?_ | refine andThen_ret ?_ | refine inBlock_normal ?_ | refine inBlock_ret ?_ | refine inBlock_here ?_ | refine inBlock_out rfl ?_ | refine LWp.seq ?_ | refine LWp.region ?_ | refine LWp.block ?_ | refine LWp.exit ?_ | refine LWp.ret ?_ | refine LWp.skip ?_ | refine LOps.valA ?_ | refine LOps.outA ?_ | refine LOps.whenA ?_ | refine LOps.pickA ?_ | refine LOps.storeA ?_)
        exact ⟨rfl, j, _, by omega, hjn, holds.over ⟨rfl, rfl, rfl, rfl, trivial⟩⟩
      have h : (false || decide (((lBytes (l.take j)).length : Int) + ((bL (enBytes l[j])).length : Int) > (n : Int))) = false := h
      rw [Bool.false_or, hbe] at h
      have hn1 : (lBytes (l.take j)).length + (enBytes l[j]).length ≤ n := by have := of_decide_eq_false h; omega
      have hT : (((lBytes (l.take j)).length : Nat) : Int) + ((bL (enBytes l[j])).length : Int) = (((lBytes (l.take (j + 1))).length : Nat) : Int) := by rw [hnx, hbe, List.length_append]; omega
      repeat (first | refine LOps.nil ?_ | refine andThen_normal ?_ | refine andThen_exit ?_ | refine andThen_ret ?_ | refine inBlock_normal ?_ | refine inBlock_ret ?_ | refine inBlock_here ?_ | refine inBlock_out rfl ?_ | refine LWp.seq ?_ | refine LWp.region ?_ | refine LWp.block ?_ | refine LWp.exit ?_ | refine LWp.ret ?_ | refine LWp.skip ?_ | refine LOps.valA ?_ | refine LOps.outA ?_ | refine LOps.whenA ?_ | refine LOps.pickA ?_ | refine LOps.storeA ?_)
      rw [hT]
      repeat (first | refine LOps.nil ?_ | refine andThen_normal ?_ | refine andThen_exit ?_ | refine andThen_ret ?_ | refine inBlock_normal ?_ | refine inBlock_ret ?_ | refine inBlock_here ?_ | refine inBlock_out rfl ?_ | refine LWp.seq ?_ | refine LWp.region ?_ | refine LWp.block ?_ | refine LWp.exit ?_ | refine LWp.ret ?_ | refine LWp.skip ?_ | refine LOps.valA ?_ | refine LOps.outA ?_ | refine LOps.whenA ?_ | refine LOps.pickA ?_ | refine LOps.storeA ?_)
      exact ⟨l.length - (j + 1), by omega, rfl, _, j + 1, by omega, rfl, by rw [hnx, List.length_append]; omega, holds.over ⟨rfl, rfl, rfl, rfl, rfl, rfl, trivial⟩⟩
    · have hge : j = l.length := by simp at h; omega
      subst hge
      repeat (first | refine LOps.nil ?_ | refine andThen_normal ?_ | refine andThen_exit ?_ | refine andThen_ret ?_ | refine inBlock_normal ?_ | refine inBlock_ret ?_ | refine inBlock_here ?_ | refine inBlock_out rfl ?_ | refine LWp.seq ?_ | refine LWp.region ?_ | refine LWp.block ?_ | refine LWp.exit ?_ | refine LWp.ret ?_ | refine LWp.skip ?_ | refine LOps.valA ?_ | refine LOps.outA ?_ | refine LOps.whenA ?_ | refine LOps.pickA ?_ | refine LOps.storeA ?_)
      exact ⟨rfl, l.length, _, by omega, hjn, holds.over ⟨rfl, rfl, rfl, rfl, trivial⟩⟩
  rintro T' S ⟨rfl, w, T'', hw, hwn, rfl⟩
  have hpre : (lBytes l).take n = lBytes (l.take w) ++ ((lBytes (l.drop w)).take (n - (lBytes (l.take w)).length)) := by
    rw [lBytes_take l w, List.take_append, List.take_of_length_le hwn]
  have hkw : ∀ x ∈ l.take w, enOK x := fun x hx => k1 x (List.mem_of_mem_take hx)
  have hdl : ((lBytes l).take n).length ≤ 16384 := by rw [List.length_take]; omega
  have hdec := decodeS_app hkw (b := (lBytes (l.drop w)).take (n - (lBytes (l.take w)).length)) (by rw [← hpre]; exact hdl)
  rw [← hpre] at hdec
  have hdf := decode_F hP ((lBytes l).take n) (by omega)
  have hlen : w ≤ (decodeS ((lBytes l).take n)).length := by
    rw [hdec, List.length_append, List.length_take]; omega
  have htk : (decodeS ((lBytes l).take n)).take w = l.take w := by
    rw [hdec, List.take_append, List.length_take, List.take_take, Nat.min_self, show w - min w l.length = 0 by omega, List.take_zero, List.append_nil]
  have hsm := same_F hP ((decodeS ((lBytes l).take n)).take w) (l.take w) (by rw [htk, List.length_take]; omega) (fun e he => by
    rw [htk] at he
    have := enOK_writes (hkw e he); omega)
  rw [decide_eq_true htk] at hsm
  have hmd : ((decodeS ((lBytes l).take n)).map enL).length = (decodeS ((lBytes l).take n)).length := List.length_map ..
  repeat (first | refine LOps.val (LVal.takeMap hD rfl rfl rfl rfl rfl rfl (by omega) rfl (fun _ _ => rfl)) rfl rfl rfl ?_ | refine LOps.nil ?_ | refine andThen_normal ?_ | refine andThen_exit ?_ | refine andThen_ret ?_ | refine inBlock_normal ?_ | refine inBlock_ret ?_ | refine inBlock_here ?_ | refine inBlock_out rfl ?_ | refine LWp.seq ?_ | refine LWp.region ?_ | refine LWp.block ?_ | refine LWp.exit ?_ | refine LWp.ret ?_ | refine LWp.skip ?_ | refine LOps.val (LVal.call rfl rfl (by rw [hP]; exact Try.func11) rfl (by decide) (hdf)) rfl rfl rfl ?_ | refine LOps.whenC (LVal.call rfl rfl (by rw [hP]; exact Try.func11) rfl (by decide) (hdf)) ?_ | refine LOps.valA ?_ | refine LOps.outA ?_ | refine LOps.whenA ?_ | refine LOps.pickA ?_ | refine LOps.storeA ?_)
  refine LWp.drawL [0, 1, 2, 3, 4, 5, 6, 7, 8, 9, 10, 11, 12, 13] (by rw [hP]; rfl) rfl ?_
  repeat (first | refine LRl.valC (fun _ => (LVal.call rfl rfl (by rw [hP]; exact Try.func12) rfl (by decide) (hsm))) ?_ | refine LRl.whenC (fun _ => (LVal.call rfl rfl (by rw [hP]; exact Try.func12) rfl (by decide) (hsm))) ?_ | refine LRl.nil ?_ | refine LRl.valA ?_ | refine LRl.outA ?_ | refine LRl.whenA ?_ | refine LRl.pickA ?_)
  repeat (first | refine LOps.nil ?_ | refine andThen_normal ?_ | refine andThen_exit ?_ | refine andThen_ret ?_ | refine inBlock_normal ?_ | refine inBlock_ret ?_ | refine inBlock_here ?_ | refine inBlock_out rfl ?_ | refine LWp.seq ?_ | refine LWp.region ?_ | refine LWp.block ?_ | refine LWp.exit ?_ | refine LWp.ret ?_ | refine LWp.skip ?_ | refine LOps.valA ?_ | refine LOps.outA ?_ | refine LOps.whenA ?_ | refine LOps.pickA ?_ | refine LOps.storeA ?_)
  refine ⟨_, LRes.one rfl, ?_⟩
  show TV.one (bv ((decide ((((decodeS ((lBytes l).take n)).map enL).length : Int) ≥ (w : Int))) && true)) = _
  rw [hmd, decide_eq_true (by omega)]
  rfl
end Go.Proofs.Ytbifiagpmoakdaa.LF

namespace Go.Proofs.Ytbifiagpmoakdaa
open Go.RowKit LF
theorem scriptCut_walk (W : World) (v0 : Value) (l0 : List LV) (y0 : Typed LF.D 24 l0) (g0 : RepT (G0 Try.prog W) W (allCells W) (argTV ti24 l0) v0) (v1 : Value) (l1 : List LV) (y1 : Typed LF.D 3 l1) (g1 : RepT (G0 Try.prog W) W (allCells W) (argTV ti3 l1) v1) :
    Calls Try.prog 8 #[v0, v1] W fun e W' => e = .returned (.bool true) ∧ Below W.heap.size W W' := by
  obtain ⟨es, rfl, ht⟩ := typed_ens y0
  obtain ⟨a, rfl, _⟩ := typed_int rfl rfl y1
  exact law_calls (fun G S h => cut_L h es ht a S) (.cons (vs := [v1]) g0 (.cons (vs := []) g1 .nil))
end Go.Proofs.Ytbifiagpmoakdaa
