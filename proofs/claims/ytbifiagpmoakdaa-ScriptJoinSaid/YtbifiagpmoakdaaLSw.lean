/- The walk of the law 'ScriptJoin'. -/
import Derived.Test.YtbifiagpmoakdaaLSv
import Derived.Test.YtbifiagpmoakdaaLFza
set_option linter.unusedVariables false
set_option linter.unusedSimpArgs false
namespace Go.Proofs.Ytbifiagpmoakdaa.LF
open Go.RowKit
set_option linter.unusedVariables false

abbrev strB (bs : List UInt8) : ByteArray := ⟨bs.toArray⟩
theorem strB_app (a b : List UInt8) : strB a ++ strB b = strB (a ++ b) := by
  apply ByteArray.ext
  simp [strB, ByteArray.data_append]
theorem strB_size (a : List UInt8) : (strB a).size = a.length := by simp [strB, ByteArray.size]

theorem encS_one (x : En) : encS [x] = if okB x then (if (enBytes x).length ≤ 16384 then (enBytes x, 0) else ([], 3)) else ([], 1) := by
  unfold encS
  rw [lBytes_one]
  simp

/-- The texts of a list's entries, each for itself. -/
def eachB (l : List En) : List UInt8 := l.flatMap fun x => (encS [x]).1
theorem eachB_len (l : List En) : (eachB l).length ≤ l.length * 16384 := by
  induction l with
  | nil => simp [eachB]
  | cons x l ih =>
    have := encS_len [x]
    unfold eachB at ih ⊢
    rw [List.flatMap_cons, List.length_append, List.length_cons]; omega
theorem eachB_eq {l : List En} (h : l.all okB = true) (h3 : ∀ x ∈ l, (encS [x]).2 ≠ 3) : eachB l = lBytes l := by
  induction l with
  | nil => rfl
  | cons x l ih =>
    rw [List.all_cons, Bool.and_eq_true] at h
    have := h3 x (by simp)
    have e : (encS [x]).1 = enBytes x := by
      rw [encS_one, if_pos h.1] at this ⊢
      by_cases hl : (enBytes x).length ≤ 16384
      · rw [if_pos hl]
      · rw [if_neg hl] at this; exact absurd rfl this
    unfold eachB at ih ⊢
    rw [List.flatMap_cons, lBytes_cons, e, ih h.2 fun y hy => h3 y (List.mem_cons_of_mem _ hy)]
theorem encS_long {l : List En} {x : En} (hx : x ∈ l) (h : (encS [x]).2 = 3) : (encS l).2 ≠ 0 := by
  intro h0
  obtain ⟨h1, h2, _⟩ := encS_ok h0
  rw [encS_one] at h
  split at h
  · split at h
    · cases h
    · rename_i hl
      obtain ⟨a, b, rfl⟩ := List.append_of_mem hx
      rw [lBytes_app, lBytes_cons, List.length_append, List.length_append] at h2
      omega
  · cases h

set_option maxHeartbeats 8000000 in
theorem join_L {G : Ctx} (hP : G.P = Try.prog) (l : List En) (ht : ∀ x ∈ l, EnT x) (S : LS) : LCalls G 9 [.one (.sl .sh (l.map enL))] (fun r _ => r = .one (bv true)) S := by
  have hD : TabOK G.P D := by rw [hP]; exact hD0
  have hml : (l.map enL).length = l.length := List.length_map ..
  refine LCalls.enter (fn := Try.f9) (by rw [hP]; exact Try.func9) rfl rfl ?_
  repeat (first | refine LOps.nil ?_ | refine andThen_normal ?_ | refine andThen_exit ?_ | refine andThen_ret ?_ | refine inBlock_normal ?_ | refine inBlock_ret ?_ | refine inBlock_here ?_ | refine inBlock_out rfl ?_ | refine LWp.seq ?_ | refine LWp.region ?_ | refine LWp.block ?_ | refine LWp.exit ?_ | refine LWp.ret ?_ | refine LWp.skip ?_ | refine LOps.val (LVal.call rfl rfl (by rw [hP]; exact Try.func10) rfl (by decide) (awake_F hP)) rfl rfl rfl ?_ | refine LOps.whenC (LVal.call rfl rfl (by rw [hP]; exact Try.func10) rfl (by decide) (awake_F hP)) ?_ | refine LOps.valA ?_ | refine LOps.outA ?_ | refine LOps.whenA ?_ | refine LOps.pickA ?_ | refine LOps.storeA ?_)
  refine LWp.cond rfl (fun h => ?_) (fun h => ?_)
  · simp at h
  repeat (first | refine LOps.nil ?_ | refine andThen_normal ?_ | refine andThen_exit ?_ | refine andThen_ret ?_ | refine inBlock_normal ?_ | refine inBlock_ret ?_ | refine inBlock_here ?_ | refine inBlock_out rfl ?_ | refine LWp.seq ?_ | refine LWp.region ?_ | refine LWp.block ?_ | refine LWp.exit ?_ | refine LWp.ret ?_ | refine LWp.skip ?_ | refine LOps.val (LVal.call rfl rfl (by rw [hP]; exact Try.func15) rfl (by decide) (great_F hP l)) rfl rfl rfl ?_ | refine LOps.whenC (LVal.call rfl rfl (by rw [hP]; exact Try.func15) rfl (by decide) (great_F hP l)) ?_ | refine LOps.valA ?_ | refine LOps.outA ?_ | refine LOps.whenA ?_ | refine LOps.pickA ?_ | refine LOps.storeA ?_)
  refine LWp.cond rfl (fun h => ?_) (fun h => ?_)
  · repeat (first | refine LOps.nil ?_ | refine andThen_normal ?_ | refine andThen_exit ?_ | refine andThen_ret ?_ | refine inBlock_normal ?_ | refine inBlock_ret ?_ | refine inBlock_here ?_ | refine inBlock_out rfl ?_ | refine LWp.seq ?_ | refine LWp.region ?_ | refine LWp.block ?_ | refine LWp.exit ?_ | refine LWp.ret ?_ | refine LWp.skip ?_ | refine LOps.valA ?_ | refine LOps.outA ?_ | refine LOps.whenA ?_ | refine LOps.pickA ?_ | refine LOps.storeA ?_)
    exact ⟨_, LRes.one rfl, rfl⟩
  obtain ⟨hl3, hsl⟩ := greatS_small h
  clear h
  have hx : ∀ x ∈ l, EnB x := fun x hx => (hsl x hx).b (ht x hx)
  have he := encode_F hP l (by omega) hx
  have hlx := encS_len l
  have hbx := bL_len (encS l).1
  have hec := encS_code l
  repeat (first | refine LWp.seq (LWp.cut 8 (fun T' S' => S' = S ∧ (∀ x ∈ l, (encS [x]).2 ≠ 3) ∧ ∃ (T'' : Nat → TV), T' = over T'' [(3, .one (.sl .sh (bL (encS l).1))), (4, .one (iv ((encS l).2 : Nat))), (5, .one (bv (l.all okB))), (6, .one (sv (strB (eachB l))))]) rfl ?_ ?_) | refine LOps.nil ?_ | refine andThen_normal ?_ | refine andThen_exit ?_ | refine andThen_ret ?_ | refine inBlock_normal ?_ | refine inBlock_ret ?_ | refine inBlock_here ?_ | refine inBlock_out rfl ?_ | refine LWp.seq ?_ | refine LWp.region ?_ | refine LWp.block ?_ | refine LWp.exit ?_ | refine LWp.ret ?_ | refine LWp.skip ?_ | refine LOps.val (LVal.call rfl rfl (by rw [hP]; exact Try.func14) rfl (by decide) (he)) rfl rfl rfl ?_ | refine LOps.whenC (LVal.call rfl rfl (by rw [hP]; exact Try.func14) rfl (by decide) (he)) ?_ | refine LOps.valA ?_ | refine LOps.outA ?_ | refine LOps.whenA ?_ | refine LOps.pickA ?_ | refine LOps.storeA ?_)
  · repeat (first | refine LOps.nil ?_ | refine andThen_normal ?_ | refine andThen_exit ?_ | refine andThen_ret ?_ | refine inBlock_normal ?_ | refine inBlock_ret ?_ | refine inBlock_here ?_ | refine inBlock_out rfl ?_ | refine LWp.seq ?_ | refine LWp.region ?_ | refine LWp.block ?_ | refine LWp.exit ?_ | refine LWp.ret ?_ | refine LWp.skip ?_ | refine LOps.valA ?_ | refine LOps.outA ?_ | refine LOps.whenA ?_ | refine LOps.pickA ?_ | refine LOps.storeA ?_)
    refine LWp.loop (fun k T S' => S' = S ∧ ∃ (T' : Nat → TV) (j : Nat), j ≤ l.length ∧ k = l.length - j ∧ (∀ x ∈ l.take j, (encS [x]).2 ≠ 3) ∧ T = over T' [(0, .one (.sl .sh (l.map enL))), (3, .one (.sl .sh (bL (encS l).1))), (4, .one (iv ((encS l).2 : Nat))), (5, .one (bv ((l.take j).all okB))), (6, .one (sv (strB (eachB (l.take j))))), (7, .one (iv (j : Nat)))]) l.length ?_ ?_
    · exact ⟨rfl, _, 0, by omega, rfl, by simp, holds.over ⟨rfl, rfl, rfl, rfl, rfl, rfl, trivial⟩⟩
    rintro k T S1 ⟨rfl, T', j, hj, rfl, hno, rfl⟩
    repeat (first | refine LOps.nil ?_ | refine andThen_normal ?_ | refine andThen_exit ?_ | refine andThen_ret ?_ | refine inBlock_normal ?_ | refine inBlock_ret ?_ | refine inBlock_here ?_ | refine inBlock_out rfl ?_ | refine LWp.seq ?_ | refine LWp.region ?_ | refine LWp.block ?_ | refine LWp.exit ?_ | refine LWp.ret ?_ | refine LWp.skip ?_ | refine LOps.valA ?_ | refine LOps.outA ?_ | refine LOps.whenA ?_ | refine LOps.pickA ?_ | refine LOps.storeA ?_)
    refine LWp.cond rfl (fun h => ?_) (fun h => ?_)
    · have hlt : j < l.length := by simpa using h
      have hjb := hx _ (List.getElem_mem hlt)
      have hone := encode_F hP [l[j]] (by simp) (fun x hx => by obtain rfl : x = l[j] := (by simpa using hx); exact hjb)
      have hbe := bL_len (encS [l[j]]).1
      have hle1 := encS_len [l[j]]
      have hcj := encS_one l[j]
      have heach : eachB (l.take (j + 1)) = eachB (l.take j) ++ (encS [l[j]]).1 := by
        unfold eachB; rw [List.take_succ_eq_append_getElem hlt, List.flatMap_append]; simp
      have hall : (l.take (j + 1)).all okB = ((l.take j).all okB && okB l[j]) := by
        rw [List.take_succ_eq_append_getElem hlt, List.all_append]; simp
      have hel := eachB_len (l.take j)
      have htl : (l.take j).length ≤ 3000 := by rw [List.length_take]; omega
      have hsz1 := strB_size (eachB (l.take j))
      have hsz2 := strB_size (encS [l[j]]).1
      have h3000 := Nat.mul_le_mul_right 16384 htl
      repeat (first | refine LOps.val (r := .one (.sl .sh ([l[j]].map enL))) (LVal.to (LVal.cutMap (m := j) (n := j + 1) hD rfl rfl rfl rfl rfl rfl rfl (by omega) (by omega) rfl (fun _ _ => rfl)) (by rw [show j + 1 - j = 1 by omega, cut_one hlt])) rfl rfl rfl ?_ | refine LWp.seq (LWp.cut 12 (fun T' S' => S' = S1 ∧ ∃ (T'' : Nat → TV), T' = over T'' [(0, .one (.sl .sh (l.map enL))), (3, .one (.sl .sh (bL (encS l).1))), (4, .one (iv ((encS l).2 : Nat))), (5, .one (bv ((l.take (j + 1)).all okB))), (6, .one (sv (strB (eachB (l.take j))))), (7, .one (iv (j : Nat))), (8, .one (.sl .sh (bL (encS [l[j]]).1))), (9, .one (iv ((encS [l[j]]).2 : Nat)))]) rfl ?_ ?_) | refine LOps.nil ?_ | refine andThen_normal ?_ | refine andThen_exit ?_ | refine andThen_ret ?_ | refine inBlock_normal ?_ | refine inBlock_ret ?_ | refine inBlock_here ?_ | refine inBlock_out rfl ?_ | refine LWp.seq ?_ | refine LWp.region ?_ | refine LWp.block ?_ | refine LWp.exit ?_ | refine LWp.ret ?_ | refine LWp.skip ?_ | refine LOps.val (LVal.call rfl rfl (by rw [hP]; exact Try.func14) rfl (by decide) (hone)) rfl rfl rfl ?_ | refine LOps.whenC (LVal.call rfl rfl (by rw [hP]; exact Try.func14) rfl (by decide) (hone)) ?_ | refine LOps.valA ?_ | refine LOps.outA ?_ | refine LOps.whenA ?_ | refine LOps.pickA ?_ | refine LOps.storeA ?_)
      · repeat (first | refine LOps.nil ?_ | refine andThen_normal ?_ | refine andThen_exit ?_ | refine andThen_ret ?_ | refine inBlock_normal ?_ | refine inBlock_ret ?_ | refine inBlock_here ?_ | refine inBlock_out rfl ?_ | refine LWp.seq ?_ | refine LWp.region ?_ | refine LWp.block ?_ | refine LWp.exit ?_ | refine LWp.ret ?_ | refine LWp.skip ?_ | refine LOps.valA ?_ | refine LOps.outA ?_ | refine LOps.whenA ?_ | refine LOps.pickA ?_ | refine LOps.storeA ?_)
        refine LWp.cond rfl (fun h => ?_) (fun h => ?_)
        · have h1 : (encS [l[j]]).2 = 1 := by have h : ((((encS [l[j]]).2 : Nat) : Int) == 1) = true := h; simp at h; omega
          have hno : okB l[j] = false := by
            cases hq : okB l[j] with
            | false => rfl
            | true => rw [hcj, if_pos hq] at h1; split at h1 <;> cases h1
          repeat (first | refine LOps.nil ?_ | refine andThen_normal ?_ | refine andThen_exit ?_ | refine andThen_ret ?_ | refine inBlock_normal ?_ | refine inBlock_ret ?_ | refine inBlock_here ?_ | refine inBlock_out rfl ?_ | refine LWp.seq ?_ | refine LWp.region ?_ | refine LWp.block ?_ | refine LWp.exit ?_ | refine LWp.ret ?_ | refine LWp.skip ?_ | refine LOps.valA ?_ | refine LOps.outA ?_ | refine LOps.whenA ?_ | refine LOps.pickA ?_ | refine LOps.storeA ?_)
          exact ⟨rfl, _, holds.over ⟨rfl, rfl, rfl, by rw [hall, hno, Bool.and_false]; rfl, rfl, rfl, rfl, rfl, trivial⟩⟩
        · have h1 : ¬ (encS [l[j]]).2 = 1 := by have h : ((((encS [l[j]]).2 : Nat) : Int) == 1) = false := h; simp at h; omega
          have hyes : okB l[j] = true := by
            cases hq : okB l[j] with
            | true => rfl
            | false => rw [hcj, hq] at h1; exact absurd rfl h1
          repeat (first | refine LOps.nil ?_ | refine andThen_normal ?_ | refine andThen_exit ?_ | refine andThen_ret ?_ | refine inBlock_normal ?_ | refine inBlock_ret ?_ | refine inBlock_here ?_ | refine inBlock_out rfl ?_ | refine LWp.seq ?_ | refine LWp.region ?_ | refine LWp.block ?_ | refine LWp.exit ?_ | refine LWp.ret ?_ | refine LWp.skip ?_ | refine LOps.valA ?_ | refine LOps.outA ?_ | refine LOps.whenA ?_ | refine LOps.pickA ?_ | refine LOps.storeA ?_)
          exact ⟨rfl, _, holds.over ⟨rfl, rfl, rfl, by rw [hall, hyes, Bool.and_true]; rfl, rfl, rfl, rfl, rfl, trivial⟩⟩
      rintro T' S2 ⟨rfl, T'', rfl⟩
      repeat (first | refine LOps.val (LVal.bytesStr hD rfl rfl rfl rfl rfl rfl rfl rfl) rfl rfl rfl ?_ | refine LOps.val (r := .one (sv (strB (eachB (l.take (j + 1)))))) (LVal.to (LVal.addStr rfl rfl rfl (by rw [hsz1]; show _ + (strB (encS [l[j]]).1).size ≤ _; rw [hsz2]; omega)) (by rw [heach, ← strB_app])) rfl rfl rfl ?_ | refine LOps.nil ?_ | refine andThen_normal ?_ | refine andThen_exit ?_ | refine andThen_ret ?_ | refine inBlock_normal ?_ | refine inBlock_ret ?_ | refine inBlock_here ?_ | refine inBlock_out rfl ?_ | refine LWp.seq ?_ | refine LWp.region ?_ | refine LWp.block ?_ | refine LWp.exit ?_ | refine LWp.ret ?_ | refine LWp.skip ?_ | refine LOps.valA ?_ | refine LOps.outA ?_ | refine LOps.whenA ?_ | refine LOps.pickA ?_ | refine LOps.storeA ?_)
      refine LWp.cond rfl (fun h => ?_) (fun h => ?_)
      · have h1 : (encS [l[j]]).2 = 3 := by have h : ((((encS [l[j]]).2 : Nat) : Int) == 3) = true := h; simp at h; omega
        have := encS_long (List.getElem_mem hlt) h1
        repeat (first | refine LOps.nil ?_ | refine andThen_normal ?_ | refine andThen_exit ?_ | refine andThen_ret ?_ | refine inBlock_normal ?_ | refine inBlock_ret ?_ | refine inBlock_here ?_ | refine inBlock_out rfl ?_ | refine LWp.seq ?_ | refine LWp.region ?_ | refine LWp.block ?_ | refine LWp.exit ?_ | refine LWp.ret ?_ | refine LWp.skip ?_ | refine LOps.valA ?_ | refine LOps.outA ?_ | refine LOps.whenA ?_ | refine LOps.pickA ?_ | refine LOps.storeA ?_)
        refine ⟨_, LRes.one rfl, ?_⟩
        show TV.one (bv (!((((encS l).2 : Nat) : Int) == 0))) = _
        have hb : ((((encS l).2 : Nat) : Int) == 0) = false := by simp; omega
        rw [hb]; rfl
      · have h1 : ¬ (encS [l[j]]).2 = 3 := by have h : ((((encS [l[j]]).2 : Nat) : Int) == 3) = false := h; simp at h; omega
        repeat (first | refine LOps.nil ?_ | refine andThen_normal ?_ | refine andThen_exit ?_ | refine andThen_ret ?_ | refine inBlock_normal ?_ | refine inBlock_ret ?_ | refine inBlock_here ?_ | refine inBlock_out rfl ?_ | refine LWp.seq ?_ | refine LWp.region ?_ | refine LWp.block ?_ | refine LWp.exit ?_ | refine LWp.ret ?_ | refine LWp.skip ?_ | refine LOps.valA ?_ | refine LOps.outA ?_ | refine LOps.whenA ?_ | refine LOps.pickA ?_ | refine LOps.storeA ?_)
        refine ⟨l.length - (j + 1), by omega, rfl, _, j + 1, by omega, rfl, fun x hxm => ?_, holds.over ⟨rfl, rfl, rfl, rfl, rfl, rfl, trivial⟩⟩
        rw [List.take_succ_eq_append_getElem hlt, List.mem_append] at hxm
        rcases hxm with hxm | hxm
        · exact hno x hxm
        · obtain rfl : x = l[j] := (by simpa using hxm)
          exact h1
    · have hge : j = l.length := by simp at h; omega
      subst hge
      rw [List.take_length] at hno
      rw [List.take_length]
      repeat (first | refine LOps.nil ?_ | refine andThen_normal ?_ | refine andThen_exit ?_ | refine andThen_ret ?_ | refine inBlock_normal ?_ | refine inBlock_ret ?_ | refine inBlock_here ?_ | refine inBlock_out rfl ?_ | refine LWp.seq ?_ | refine LWp.region ?_ | refine LWp.block ?_ | refine LWp.exit ?_ | refine LWp.ret ?_ | refine LWp.skip ?_ | refine LOps.valA ?_ | refine LOps.outA ?_ | refine LOps.whenA ?_ | refine LOps.pickA ?_ | refine LOps.storeA ?_)
      exact ⟨rfl, hno, _, holds.over ⟨rfl, rfl, rfl, rfl, trivial⟩⟩
  rintro T' S ⟨rfl, hno, T'', rfl⟩
  have hsz := strB_size (eachB l)
  repeat (first | refine LOps.nil ?_ | refine andThen_normal ?_ | refine andThen_exit ?_ | refine andThen_ret ?_ | refine inBlock_normal ?_ | refine inBlock_ret ?_ | refine inBlock_here ?_ | refine inBlock_out rfl ?_ | refine LWp.seq ?_ | refine LWp.region ?_ | refine LWp.block ?_ | refine LWp.exit ?_ | refine LWp.ret ?_ | refine LWp.skip ?_ | refine LOps.valA ?_ | refine LOps.outA ?_ | refine LOps.whenA ?_ | refine LOps.pickA ?_ | refine LOps.storeA ?_)
  refine LWp.cond rfl (fun h => ?_) (fun h => ?_)
  · have h : (!(l.all okB)) = true := h
    have he1 : encS l = ([], 1) := by
      unfold encS; rw [if_neg (by intro hq; rw [hq] at h; cases h)]
    rw [he1]
    repeat (first | refine LOps.nil ?_ | refine andThen_normal ?_ | refine andThen_exit ?_ | refine andThen_ret ?_ | refine inBlock_normal ?_ | refine inBlock_ret ?_ | refine inBlock_here ?_ | refine inBlock_out rfl ?_ | refine LWp.seq ?_ | refine LWp.region ?_ | refine LWp.block ?_ | refine LWp.exit ?_ | refine LWp.ret ?_ | refine LWp.skip ?_ | refine LOps.valA ?_ | refine LOps.outA ?_ | refine LOps.whenA ?_ | refine LOps.pickA ?_ | refine LOps.storeA ?_)
    exact ⟨_, LRes.one rfl, rfl⟩
  have h : (!(l.all okB)) = false := h
  have hall : l.all okB = true := by cases hq : l.all okB with
    | true => rfl
    | false => rw [hq] at h; cases h
  have heq := eachB_eq hall hno
  clear h
  repeat (first | refine LOps.nil ?_ | refine andThen_normal ?_ | refine andThen_exit ?_ | refine andThen_ret ?_ | refine inBlock_normal ?_ | refine inBlock_ret ?_ | refine inBlock_here ?_ | refine inBlock_out rfl ?_ | refine LWp.seq ?_ | refine LWp.region ?_ | refine LWp.block ?_ | refine LWp.exit ?_ | refine LWp.ret ?_ | refine LWp.skip ?_ | refine LOps.valA ?_ | refine LOps.outA ?_ | refine LOps.whenA ?_ | refine LOps.pickA ?_ | refine LOps.storeA ?_)
  refine LWp.cond rfl (fun h => ?_) (fun h => ?_)
  · have hgt : 16384 < (lBytes l).length := by
      have h : decide (((strB (eachB l)).size : Int) > 16384) = true := h
      rw [hsz, heq] at h
      simp at h; omega
    have he1 : encS l = ([], 3) := by unfold encS; rw [if_pos hall, if_neg (by omega)]
    rw [he1]
    repeat (first | refine LOps.nil ?_ | refine andThen_normal ?_ | refine andThen_exit ?_ | refine andThen_ret ?_ | refine inBlock_normal ?_ | refine inBlock_ret ?_ | refine inBlock_here ?_ | refine inBlock_out rfl ?_ | refine LWp.seq ?_ | refine LWp.region ?_ | refine LWp.block ?_ | refine LWp.exit ?_ | refine LWp.ret ?_ | refine LWp.skip ?_ | refine LOps.valA ?_ | refine LOps.outA ?_ | refine LOps.whenA ?_ | refine LOps.pickA ?_ | refine LOps.storeA ?_)
    exact ⟨_, LRes.one rfl, rfl⟩
  · have hgt : (lBytes l).length ≤ 16384 := by
      have h : decide (((strB (eachB l)).size : Int) > 16384) = false := h
      rw [hsz, heq] at h
      simp at h; omega
    have he1 : encS l = (lBytes l, 0) := by unfold encS; rw [if_pos hall, if_pos hgt]
    rw [he1, heq]
    repeat (first | refine LOps.whenC (LVal.bytesStr hD rfl rfl rfl rfl rfl rfl rfl rfl) ?_ | refine LOps.nil ?_ | refine andThen_normal ?_ | refine andThen_exit ?_ | refine andThen_ret ?_ | refine inBlock_normal ?_ | refine inBlock_ret ?_ | refine inBlock_here ?_ | refine inBlock_out rfl ?_ | refine LWp.seq ?_ | refine LWp.region ?_ | refine LWp.block ?_ | refine LWp.exit ?_ | refine LWp.ret ?_ | refine LWp.skip ?_ | refine LOps.valA ?_ | refine LOps.outA ?_ | refine LOps.whenA ?_ | refine LOps.pickA ?_ | refine LOps.storeA ?_)
    refine ⟨_, LRes.one rfl, ?_⟩
    show TV.one (bv (true && decide (strB (lBytes l) = strB (lBytes l)))) = _
    rw [decide_eq_true rfl]; rfl
end Go.Proofs.Ytbifiagpmoakdaa.LF

namespace Go.Proofs.Ytbifiagpmoakdaa
open Go.RowKit LF
theorem scriptJoin_walk (W : World) (v0 : Value) (l0 : List LV) (y0 : Typed LF.D 24 l0) (g0 : RepT (G0 Try.prog W) W (allCells W) (argTV ti24 l0) v0) :
    Calls Try.prog 9 #[v0] W fun e W' => e = .returned (.bool true) ∧ Below W.heap.size W W' := by
  obtain ⟨es, rfl, ht⟩ := typed_ens y0
  exact law_calls (fun G S h => join_L h es ht S) (.cons (vs := []) g0 .nil)
end Go.Proofs.Ytbifiagpmoakdaa
