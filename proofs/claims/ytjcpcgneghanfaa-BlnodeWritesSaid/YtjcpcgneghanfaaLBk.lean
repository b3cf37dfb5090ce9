/- The document's Place; the walk of the law 'BlnodeReads'. -/
import Derived.Test.YtjcpcgneghanfaaLBj
set_option linter.unusedVariables false
set_option linter.unusedSimpArgs false
namespace Go.Proofs.Ytjcpcgneghanfaa.LF
open Go.RowKit
set_option linter.unusedVariables false

def cntA (l : List ByteArray) (k : ByteArray) : Nat := l.countP fun x => ltS x k
def anyA (l : List ByteArray) (k : ByteArray) : Bool := l.any fun x => decide (x = k)
theorem cntA_step {l : List ByteArray} {k : ByteArray} {j : Nat} (h : j < l.length) : cntA (l.take (j + 1)) k = cntA (l.take j) k + if ltS l[j] k then 1 else 0 := by
  unfold cntA
  rw [List.take_succ_eq_append_getElem h, List.countP_append, List.countP_singleton]
theorem anyA_step {l : List ByteArray} {k : ByteArray} {j : Nat} (h : j < l.length) : anyA (l.take (j + 1)) k = (anyA (l.take j) k || decide (l[j] = k)) := any_take h
theorem cntA_le (l : List ByteArray) (k : ByteArray) : cntA l k ≤ l.length := List.countP_le_length
theorem place_F {G : Ctx} (hP : G.P = Try.prog) (l : List ByteArray) (hl : l.length ≤ 100000) (hz : ∀ k ∈ l, k.size ≤ B47) (k : ByteArray) (hk : k.size ≤ B47) : LFun G 15 [.one (.sl .sh (l.map sL)), .one (sv k)] (.tup [.one (iv (cntA l k : Nat)), .one (bv (anyA l k))]) := LFun.of fun S => by
  have hD : TabOK G.P D := by rw [hP]; exact hD0
  have hml : (l.map sL).length = l.length := List.length_map ..
  refine LCalls.enter (fn := Try.f15) (by rw [hP]; exact Try.func15) rfl rfl ?_
  repeat (first | refine LOps.nil ?_ | refine andThen_normal ?_ | refine andThen_exit ?_ | refine andThen_ret ?_ | refine inBlock_normal ?_ | refine inBlock_ret ?_ | refine inBlock_here ?_ | refine inBlock_out rfl ?_ | refine LWp.seq ?_ | refine LWp.region ?_ | refine LWp.block ?_ | refine LWp.exit ?_ | refine LWp.ret ?_ | refine LWp.skip ?_ | refine LOps.valA ?_ | refine LOps.outA ?_ | refine LOps.whenA ?_ | refine LOps.pickA ?_ | refine LOps.storeA ?_)
  refine LWp.loop (fun m T S' => S' = S ∧ ∃ (T' : Nat → TV) (j : Nat), j ≤ l.length ∧ m = l.length - j ∧ T = over T' [(0, .one (.sl .sh (l.map sL))), (1, .one (sv k)), (6, .one (iv (cntA (l.take j) k : Nat))), (7, .one (bv (anyA (l.take j) k))), (8, .one (iv (j : Nat)))]) l.length ?_ ?_
  · exact ⟨rfl, _, 0, by omega, by omega, holds.over ⟨rfl, rfl, rfl, rfl, rfl, trivial⟩⟩
  rintro m T S' ⟨hS, T', j, hj, rfl, rfl⟩
  subst hS
  repeat (first | refine LOps.nil ?_ | refine andThen_normal ?_ | refine andThen_exit ?_ | refine andThen_ret ?_ | refine inBlock_normal ?_ | refine inBlock_ret ?_ | refine inBlock_here ?_ | refine inBlock_out rfl ?_ | refine LWp.seq ?_ | refine LWp.region ?_ | refine LWp.block ?_ | refine LWp.exit ?_ | refine LWp.ret ?_ | refine LWp.skip ?_ | refine LOps.valA ?_ | refine LOps.outA ?_ | refine LOps.whenA ?_ | refine LOps.pickA ?_ | refine LOps.storeA ?_)
  refine LWp.cond rfl (fun h => ?_) (fun h => ?_)
  · have hlt : j < l.length := by simp at h; omega
    have hca := cntA_le (l.take j) k
    rw [List.length_take] at hca
    have c1 := less_F hP l[j] k (Nat.le_trans (hz _ (List.getElem_mem _)) (by decide)) (Nat.le_trans hk (by decide))
    repeat (first | refine LOps.nil ?_ | refine andThen_normal ?_ | refine andThen_exit ?_ | refine andThen_ret ?_ | refine inBlock_normal ?_ | refine inBlock_ret ?_ | refine inBlock_here ?_ | refine inBlock_out rfl ?_ | refine LWp.seq ?_ | refine LWp.region ?_ | refine LWp.block ?_ | refine LWp.exit ?_ | refine LWp.ret ?_ | refine LWp.skip ?_ | refine LOps.val (LVal.call rfl rfl (by rw [hP]; exact Try.func37) rfl (by decide) (c1)) rfl rfl rfl ?_ | refine LOps.whenC (LVal.call rfl rfl (by rw [hP]; exact Try.func37) rfl (by decide) (c1)) ?_ | refine LOps.valA ?_ | refine LOps.outA ?_ | refine LOps.whenA ?_ | refine LOps.pickA ?_ | refine LOps.storeA ?_)
    refine LWp.cond rfl (fun h2 => ?_) (fun h2 => ?_)
    · have h2 : ltS l[j] k = true := h2
      repeat (first | refine LOps.nil ?_ | refine andThen_normal ?_ | refine andThen_exit ?_ | refine andThen_ret ?_ | refine inBlock_normal ?_ | refine inBlock_ret ?_ | refine inBlock_here ?_ | refine inBlock_out rfl ?_ | refine LWp.seq ?_ | refine LWp.region ?_ | refine LWp.block ?_ | refine LWp.exit ?_ | refine LWp.ret ?_ | refine LWp.skip ?_ | refine LOps.valA ?_ | refine LOps.outA ?_ | refine LOps.whenA ?_ | refine LOps.pickA ?_ | refine LOps.storeA ?_)
      refine ⟨l.length - (j + 1), by omega, rfl, _, j + 1, by omega, rfl, holds.over ⟨rfl, rfl, ?_, ?_, rfl, trivial⟩⟩
      · rw [cntA_step hlt, if_pos h2]; rfl
      · rw [anyA_step hlt]; rfl
    · have h2 : ltS l[j] k = false := h2
      repeat (first | refine LOps.nil ?_ | refine andThen_normal ?_ | refine andThen_exit ?_ | refine andThen_ret ?_ | refine inBlock_normal ?_ | refine inBlock_ret ?_ | refine inBlock_here ?_ | refine inBlock_out rfl ?_ | refine LWp.seq ?_ | refine LWp.region ?_ | refine LWp.block ?_ | refine LWp.exit ?_ | refine LWp.ret ?_ | refine LWp.skip ?_ | refine LOps.valA ?_ | refine LOps.outA ?_ | refine LOps.whenA ?_ | refine LOps.pickA ?_ | refine LOps.storeA ?_)
      refine ⟨l.length - (j + 1), by omega, rfl, _, j + 1, by omega, rfl, holds.over ⟨rfl, rfl, ?_, ?_, rfl, trivial⟩⟩
      · rw [cntA_step hlt, if_neg (by rw [h2]; decide)]; rfl
      · rw [anyA_step hlt]; rfl
  · have hge : j = l.length := by simp at h; omega
    subst hge
    rw [List.take_length]
    repeat (first | refine LOps.nil ?_ | refine andThen_normal ?_ | refine andThen_exit ?_ | refine andThen_ret ?_ | refine inBlock_normal ?_ | refine inBlock_ret ?_ | refine inBlock_here ?_ | refine inBlock_out rfl ?_ | refine LWp.seq ?_ | refine LWp.region ?_ | refine LWp.block ?_ | refine LWp.exit ?_ | refine LWp.ret ?_ | refine LWp.skip ?_ | refine LOps.valA ?_ | refine LOps.outA ?_ | refine LOps.whenA ?_ | refine LOps.pickA ?_ | refine LOps.storeA ?_)
    exact ⟨_, LRes.two rfl, rfl, .refl _⟩

/-- In a rising row, what is less is ahead. -/
theorem rises_lt {l : List ByteArray} (h : risesL l = true) {i j : Nat} (hij : i < j) (hj : j < l.length) : ltS (l[i]'(by omega)) l[j] = true := by
  induction j with
  | zero => omega
  | succ j ih =>
    have h1 := risesL_iff.1 h j hj
    rcases Nat.lt_or_ge i j with h2 | h2
    · exact ltS_trans (ih h2 (by omega)) h1
    · obtain rfl : i = j := by omega
      exact h1
theorem cntK_lt {l : List ByteArray} {k : ByteArray} {i : Nat} (h : i < cntK l k) : ltS (l[i]'(Nat.lt_of_lt_of_le h (cntK_le l k))) k = true := by
  induction l generalizing i with
  | nil => simp [cntK] at h
  | cons p l ih =>
    by_cases hp : ltS p k = true
    · cases i with
      | zero => exact hp
      | succ i => exact ih (i := i) (by simpa [cntK, hp] using h)
    · simp [cntK, hp] at h
theorem cntK_ge {l : List ByteArray} {k : ByteArray} (h : cntK l k < l.length) : ltS l[cntK l k] k = false := by
  induction l with
  | nil => simp at h
  | cons p l ih =>
    unfold cntK at h ⊢
    by_cases hp : ltS p k = true
    · simp only [List.takeWhile_cons, hp, if_true, List.length_cons] at h ⊢
      exact ih (by simpa [cntK] using h)
    · have hp : ltS p k = false := by simpa using hp
      simp [hp]
theorem cnt_eq {l : List ByteArray} (h : risesL l = true) (k : ByteArray) : cntA l k = cntK l k := by
  have hl := cntK_le l k
  have e : l = l.take (cntK l k) ++ l.drop (cntK l k) := (List.take_append_drop _ _).symm
  have e1 : cntA (l.take (cntK l k)) k = cntK l k := by
    unfold cntA
    rw [List.countP_eq_length.2, List.length_take]
    · omega
    · intro x hx
      obtain ⟨i, hi, rfl⟩ := List.getElem_of_mem hx
      rw [List.getElem_take]
      exact cntK_lt (by rw [List.length_take] at hi; omega)
  have e2 : cntA (l.drop (cntK l k)) k = 0 := by
    unfold cntA
    rw [List.countP_eq_zero]
    intro x hx
    obtain ⟨i, hi, rfl⟩ := List.getElem_of_mem hx
    rw [List.length_drop] at hi
    rw [List.getElem_drop]
    have hg := cntK_ge (k := k) (l := l) (by omega)
    intro hc
    rcases Nat.eq_zero_or_pos i with h0 | h0
    · subst h0
      have hc : ltS l[cntK l k] k = true := hc
      rw [hg] at hc; cases hc
    · have := ltS_trans (rises_lt h (i := cntK l k) (j := cntK l k + i) (by omega) (by omega)) hc
      rw [hg] at this; cases this
  have : cntA l k = cntA (l.take (cntK l k)) k + cntA (l.drop (cntK l k)) k := by
    unfold cntA
    rw [← List.countP_append, List.take_append_drop]
  omega
theorem hasK_mem {l : List ByteArray} (h : risesL l = true) (k : ByteArray) : hasK l k = true ↔ k ∈ l := by
  constructor
  · intro hh
    obtain ⟨hl, e⟩ := hasK_lt hh
    exact e ▸ List.getElem_mem _
  · intro hm
    obtain ⟨i, hi, rfl⟩ := List.getElem_of_mem hm
    have hc : cntK l l[i] = i := by
      rcases Nat.lt_trichotomy (cntK l l[i]) i with h1 | h1 | h1
      · have := cntK_ge (l := l) (k := l[i]) (by omega)
        rw [rises_lt h h1 hi] at this; cases this
      · exact h1
      · have := cntK_lt h1
        rw [ltS_irrefl] at this; cases this
    unfold hasK
    rw [decide_eq_true_iff, hc, List.getElem?_eq_getElem hi]
theorem any_eq {l : List ByteArray} (h : risesL l = true) (k : ByteArray) : anyA l k = hasK l k := by
  rw [Bool.eq_iff_iff, hasK_mem h]
  unfold anyA
  rw [List.any_eq_true]
  constructor
  · rintro ⟨x, hx, e⟩
    have e : x = k := by simpa using e
    exact e ▸ hx
  · intro hx
    exact ⟨k, hx, by simp⟩
theorem rightN_rises {n : NdV} (h : rightN n = true) : risesL n.keys = true := by
  rw [rightN_eq] at h
  simp only [Bool.and_eq_true] at h
  exact h.1.1
theorem kidN_is (n : NdV) (k : ByteArray) : (kidN n k).2 = ((rightN n && coversN n k) && !n.leaf) := by
  unfold kidN
  cases n.leaf <;> cases rightN n <;> cases coversN n k <;> rfl

set_option maxHeartbeats 16000000 in
set_option maxRecDepth 10000 in
theorem reads_L {G : Ctx} (hP : G.P = Try.prog) (n : NdV) (hz : n.sz) (k : ByteArray) (hk : k.size ≤ B47) (S : LS) : LCalls G 3 [.agg (ndL n), .one (sv k)] (fun r _ => r = .one (bv true)) S := by
  have hD : TabOK G.P D := by rw [hP]; exact hD0
  have ca := awake_F hP
  have cg := great_F hP n hz
  refine LCalls.enter (fn := Try.f3) (by rw [hP]; exact Try.func3) rfl rfl ?_
  repeat (first | refine LOps.nil ?_ | refine andThen_normal ?_ | refine andThen_exit ?_ | refine andThen_ret ?_ | refine inBlock_normal ?_ | refine inBlock_ret ?_ | refine inBlock_here ?_ | refine inBlock_out rfl ?_ | refine LWp.seq ?_ | refine LWp.region ?_ | refine LWp.block ?_ | refine LWp.exit ?_ | refine LWp.ret ?_ | refine LWp.skip ?_ | refine LOps.valA ?_ | refine LOps.outA ?_ | refine LOps.whenA ?_ | refine LOps.pickA ?_ | refine LOps.storeA ?_)
  have hle := LS.le.refl S
  refine LOps.do (LDo.box rfl rfl) rfl rfl rfl ?_
  rintro _ _ ⟨b2, hb2, rfl, rfl⟩
  have s2 := hle.none hb2
  refine LOps.gen (fun S' => S.le S' ∧ S'.box b2 = some (ndL n)) ⟨hle.newBox hb2 _, box_new _ _ _⟩ ?_
  clear hle hb2 
  rintro S2 ⟨hle, k2⟩
  repeat (first | refine LOps.nil ?_ | refine andThen_normal ?_ | refine andThen_exit ?_ | refine andThen_ret ?_ | refine inBlock_normal ?_ | refine inBlock_ret ?_ | refine inBlock_here ?_ | refine inBlock_out rfl ?_ | refine LWp.seq ?_ | refine LWp.region ?_ | refine LWp.block ?_ | refine LWp.exit ?_ | refine LWp.ret ?_ | refine LWp.skip ?_ | refine LOps.val (LVal.call rfl rfl (by rw [hP]; exact Try.func10) rfl (by decide) (ca)) rfl rfl rfl ?_ | refine LOps.whenC (LVal.call rfl rfl (by rw [hP]; exact Try.func10) rfl (by decide) (ca)) ?_ | refine LOps.valA ?_ | refine LOps.outA ?_ | refine LOps.whenA ?_ | refine LOps.pickA ?_ | refine LOps.storeA ?_)
  refine LWp.condF rfl ?_
  repeat (first | refine LOps.valH (LVal.load hD rfl rfl k2 rfl rfl) ?_ | refine LOps.nil ?_ | refine andThen_normal ?_ | refine andThen_exit ?_ | refine andThen_ret ?_ | refine inBlock_normal ?_ | refine inBlock_ret ?_ | refine inBlock_here ?_ | refine inBlock_out rfl ?_ | refine LWp.seq ?_ | refine LWp.region ?_ | refine LWp.block ?_ | refine LWp.exit ?_ | refine LWp.ret ?_ | refine LWp.skip ?_ | refine LOps.val (LVal.call rfl rfl (by rw [hP]; exact Try.func11) rfl (by decide) (cg)) rfl rfl rfl ?_ | refine LOps.whenC (LVal.call rfl rfl (by rw [hP]; exact Try.func11) rfl (by decide) (cg)) ?_ | refine LOps.valA ?_ | refine LOps.outA ?_ | refine LOps.whenA ?_ | refine LOps.pickA ?_ | refine LOps.storeA ?_)
  refine LWp.cond rfl (fun h => ?_) (fun h => ?_)
  · repeat (first | refine LOps.nil ?_ | refine andThen_normal ?_ | refine andThen_exit ?_ | refine andThen_ret ?_ | refine inBlock_normal ?_ | refine inBlock_ret ?_ | refine inBlock_here ?_ | refine inBlock_out rfl ?_ | refine LWp.seq ?_ | refine LWp.region ?_ | refine LWp.block ?_ | refine LWp.exit ?_ | refine LWp.ret ?_ | refine LWp.skip ?_ | refine LOps.valA ?_ | refine LOps.outA ?_ | refine LOps.whenA ?_ | refine LOps.pickA ?_ | refine LOps.storeA ?_)
    exact ⟨_, LRes.one rfl, rfl⟩
  have h : (greatN n || decide ((k.size : Int) > 20000)) = false := h
  have hg := greatN_ok (Bool.or_eq_false_iff.1 h).1
  clear h
  have hn : n.ok := ⟨by omega, by omega, by omega⟩
  have hml : (n.keys.map sL).length = n.keys.length := List.length_map ..
  have c12 := lright_F hP n hn hz
  have c13 := lcovers_F hP n hz k hk
  have c14 := find_F hP n hn k
  have c15 := place_F hP n.keys hn.keys hz.keys k hk
  have c16 := right_F hP n hn
  have c17 := covers_F hP n k
  have c18 := full_F hP n
  have c19 := rises_F hP n.keys hn.keys hz.keys
  have c20 := kid_F hP n hn k
  repeat (first | refine LOps.valH (LVal.load hD rfl rfl k2 rfl rfl) ?_ | refine LOps.nil ?_ | refine andThen_normal ?_ | refine andThen_exit ?_ | refine andThen_ret ?_ | refine inBlock_normal ?_ | refine inBlock_ret ?_ | refine inBlock_here ?_ | refine inBlock_out rfl ?_ | refine LWp.seq ?_ | refine LWp.region ?_ | refine LWp.block ?_ | refine LWp.exit ?_ | refine LWp.ret ?_ | refine LWp.skip ?_ | refine LOps.val (LVal.call rfl rfl (by rw [hP]; exact Try.func12) rfl (by decide) (c12)) rfl rfl rfl ?_ | refine LOps.val (LVal.call rfl rfl (by rw [hP]; exact Try.func13) rfl (by decide) (c13)) rfl rfl rfl ?_ | refine LOps.val (LVal.call rfl rfl (by rw [hP]; exact Try.func14) rfl (by decide) (c14)) rfl rfl rfl ?_ | refine LOps.val (LVal.call rfl rfl (by rw [hP]; exact Try.func15) rfl (by decide) (c15)) rfl rfl rfl ?_ | refine LOps.whenC (LVal.call rfl rfl (by rw [hP]; exact Try.func12) rfl (by decide) (c12)) ?_ | refine LOps.whenC (LVal.call rfl rfl (by rw [hP]; exact Try.func13) rfl (by decide) (c13)) ?_ | refine LOps.whenC (LVal.call rfl rfl (by rw [hP]; exact Try.func14) rfl (by decide) (c14)) ?_ | refine LOps.whenC (LVal.call rfl rfl (by rw [hP]; exact Try.func15) rfl (by decide) (c15)) ?_ | refine LOps.valA ?_ | refine LOps.outA ?_ | refine LOps.whenA ?_ | refine LOps.pickA ?_ | refine LOps.storeA ?_)
  refine LWp.drawL [0, 1, 2, 3, 4, 5, 6, 7, 8, 9, 10, 11, 12, 13, 14, 15, 16, 17, 18, 19, 20, 21, 22, 23, 24, 25, 26, 27, 28, 29, 30, 31, 32, 33, 34] (by rw [hP]; rfl) rfl ?_
  repeat (first | refine LRl.valH (LVal.load hD rfl rfl k2 rfl rfl) ?_ (fun _ hS => LVal.load hD rfl rfl (hS.box _ _ k2 (by first | exact id | (intro hx; rcases hx with hx | hx <;> omega) | (intro hx; have hx2 : _ = _ := hx; omega) | (intro hx; exact absurd hx.1 (by decide)))) rfl rfl) | refine LRl.valC (fun _ => (LVal.call rfl rfl (by rw [hP]; exact Try.func16) rfl (by decide) (c16))) ?_ | refine LRl.valC (fun _ => (LVal.call rfl rfl (by rw [hP]; exact Try.func17) rfl (by decide) (c17))) ?_ | refine LRl.valC (fun _ => (LVal.call rfl rfl (by rw [hP]; exact Try.func18) rfl (by decide) (c18))) ?_ | refine LRl.valC (fun _ => (LVal.call rfl rfl (by rw [hP]; exact Try.func19) rfl (by decide) (c19))) ?_ | refine LRl.whenC (fun _ => (LVal.call rfl rfl (by rw [hP]; exact Try.func16) rfl (by decide) (c16))) ?_ | refine LRl.whenC (fun _ => (LVal.call rfl rfl (by rw [hP]; exact Try.func17) rfl (by decide) (c17))) ?_ | refine LRl.whenC (fun _ => (LVal.call rfl rfl (by rw [hP]; exact Try.func18) rfl (by decide) (c18))) ?_ | refine LRl.whenC (fun _ => (LVal.call rfl rfl (by rw [hP]; exact Try.func19) rfl (by decide) (c19))) ?_ | refine LRl.nil ?_ | refine LRl.valA ?_ | refine LRl.outA ?_ | refine LRl.whenA ?_ | refine LRl.pickA ?_)
  repeat (first | refine LOps.nil ?_ | refine andThen_normal ?_ | refine andThen_exit ?_ | refine andThen_ret ?_ | refine inBlock_normal ?_ | refine inBlock_ret ?_ | refine inBlock_here ?_ | refine inBlock_out rfl ?_ | refine LWp.seq ?_ | refine LWp.region ?_ | refine LWp.block ?_ | refine LWp.exit ?_ | refine LWp.ret ?_ | refine LWp.skip ?_ | refine LOps.valA ?_ | refine LOps.outA ?_ | refine LOps.whenA ?_ | refine LOps.pickA ?_ | refine LOps.storeA ?_)
  refine LWp.cond rfl (fun hx => ?_) (fun hx => ?_)
  · exfalso
    have hx : (((false || false) || !(decide ((n.keys.length : Int) > 4) == decide (((n.keys.map sL).length : Int) > 4))) || (risesL n.keys && (((cntK n.keys k : Int) != (cntA n.keys k : Int)) || !(hasK n.keys k == anyA n.keys k)))) = true := hx
    rw [hml, beq_self_eq_true, Bool.not_true, Bool.or_false, Bool.or_false, Bool.false_or, Bool.and_eq_true] at hx
    rw [cnt_eq hx.1, any_eq hx.1, bne_self_eq_false, beq_self_eq_true] at hx
    exact absurd hx.2 (by decide)
  clear hx
  repeat (first | refine LOps.valH (LVal.load hD rfl rfl k2 rfl rfl) ?_ | refine LOps.nil ?_ | refine andThen_normal ?_ | refine andThen_exit ?_ | refine andThen_ret ?_ | refine inBlock_normal ?_ | refine inBlock_ret ?_ | refine inBlock_here ?_ | refine inBlock_out rfl ?_ | refine LWp.seq ?_ | refine LWp.region ?_ | refine LWp.block ?_ | refine LWp.exit ?_ | refine LWp.ret ?_ | refine LWp.skip ?_ | refine LOps.val (LVal.call rfl rfl (by rw [hP]; exact Try.func20) rfl (by decide) (c20)) rfl rfl rfl ?_ | refine LOps.whenC (LVal.call rfl rfl (by rw [hP]; exact Try.func20) rfl (by decide) (c20)) ?_ | refine LOps.valA ?_ | refine LOps.outA ?_ | refine LOps.whenA ?_ | refine LOps.pickA ?_ | refine LOps.storeA ?_)
  skip
  refine LOps.do (LDo.alloc hD rfl rfl rfl) rfl rfl rfl ?_
  rintro _ _ ⟨b11, hb11, rfl, rfl⟩
  have n2_11 := fresh_ne hb11 k2
  have m11_2 := n2_11.symm
  have s11 := hle.none hb11
  refine LOps.gen (fun S' => S.le S' ∧ S'.box b2 = some (ndL n) ∧ S'.box b11 = some (hdL noHd)) ⟨hle.newBox hb11 _, (box_new_ne _ _ n2_11).trans k2, box_new _ _ _⟩ ?_
  clear hle hb11 k2
  rintro S11 ⟨hle, k2, k11⟩
  repeat (first | refine LOps.nil ?_ | refine andThen_normal ?_ | refine andThen_exit ?_ | refine andThen_ret ?_ | refine inBlock_normal ?_ | refine inBlock_ret ?_ | refine inBlock_here ?_ | refine inBlock_out rfl ?_ | refine LWp.seq ?_ | refine LWp.region ?_ | refine LWp.block ?_ | refine LWp.exit ?_ | refine LWp.ret ?_ | refine LWp.skip ?_ | refine LOps.valA ?_ | refine LOps.outA ?_ | refine LOps.whenA ?_ | refine LOps.pickA ?_)
  refine LOps.storeA (b := b11) (off := 0) (cs := hdL noHd) (l := hdL (kidN n k).1) ?_
  refine LOps.gen (fun S' => S.le S' ∧ S'.box b2 = some (ndL n) ∧ S'.box b11 = some (hdL (kidN n k).1)) ⟨hle.setBox s11 _, (box_set_ne _ _ n2_11).trans k2, (box_set _ _ _).trans (congrArg some (rfl))⟩ ?_
  clear hle k2 k11
  rintro Ss ⟨hle, k2, k11⟩
  repeat (first | refine LOps.nil ?_ | refine andThen_normal ?_ | refine andThen_exit ?_ | refine andThen_ret ?_ | refine inBlock_normal ?_ | refine inBlock_ret ?_ | refine inBlock_here ?_ | refine inBlock_out rfl ?_ | refine LWp.seq ?_ | refine LWp.region ?_ | refine LWp.block ?_ | refine LWp.exit ?_ | refine LWp.ret ?_ | refine LWp.skip ?_ | refine LOps.valA ?_ | refine LOps.outA ?_ | refine LOps.whenA ?_ | refine LOps.pickA ?_ | refine LOps.storeA ?_)
  refine LWp.cond rfl (fun hx => ?_) (fun hx => ?_)
  · exfalso
    have hx : ((kidN n k).2 != ((rightN n && coversN n k) && !n.leaf)) = true := hx
    rw [kidN_is, bne_self_eq_false] at hx; cases hx
  clear hx
  repeat (first | refine LOps.nil ?_ | refine andThen_normal ?_ | refine andThen_exit ?_ | refine andThen_ret ?_ | refine inBlock_normal ?_ | refine inBlock_ret ?_ | refine inBlock_here ?_ | refine inBlock_out rfl ?_ | refine LWp.seq ?_ | refine LWp.region ?_ | refine LWp.block ?_ | refine LWp.exit ?_ | refine LWp.ret ?_ | refine LWp.skip ?_ | refine LOps.valA ?_ | refine LOps.outA ?_ | refine LOps.whenA ?_ | refine LOps.pickA ?_ | refine LOps.storeA ?_)
  refine LWp.cond rfl (fun hx => ?_) (fun hx => ?_)
  · have hx : (!(kidN n k).2) = true := hx
    have e : (kidN n k).1 = noHd := by
      unfold kidN at hx ⊢
      split
      · rfl
      · rename_i h; rw [if_neg h] at hx; cases hx
    rw [e] at k11
    have eh : EqTy G.P D 26 := by rw [hP]; exact ⟨by kernel_rfl, by kernel_rfl⟩
    repeat (first | refine LOps.valH (LVal.load hD rfl rfl k11 rfl rfl) ?_ | refine LOps.nil ?_ | refine andThen_normal ?_ | refine andThen_exit ?_ | refine andThen_ret ?_ | refine inBlock_normal ?_ | refine inBlock_ret ?_ | refine inBlock_here ?_ | refine inBlock_out rfl ?_ | refine LWp.seq ?_ | refine LWp.region ?_ | refine LWp.block ?_ | refine LWp.exit ?_ | refine LWp.ret ?_ | refine LWp.skip ?_ | refine LOps.valA ?_ | refine LOps.outA ?_ | refine LOps.whenA ?_ | refine LOps.pickA ?_ | refine LOps.storeA ?_)
    exact ⟨_, LRes.one rfl, rfl⟩
  have hx : (!(kidN n k).2) = false := hx
  have hi : (kidN n k).2 = true := by simpa using hx
  have hi2 := hi
  rw [kidN_is, Bool.and_eq_true, Bool.and_eq_true] at hi
  have hr := hi.1.1
  have hrs := rightN_rises hr
  have hl : n.leaf = false := by simpa using hi.2
  have hix := idxN_lt (k := k) hr hl
  have e : (kidN n k).1 = n.kids[idxN n k] := by
    have hgd : n.kids.getD (idxN n k) noHd = n.kids[idxN n k] := by rw [List.getD_eq_getElem?_getD, List.getElem?_eq_getElem hix]; rfl
    unfold kidN at hi2 ⊢
    split
    · rename_i h; rw [if_pos h] at hi2; cases hi2
    · exact hgd
  rw [e] at k11
  clear hx hi hi2
  have hcl := cntK_le n.keys k
  refine LWp.slots [(2, ptr b2), (9, .one (iv (cntK n.keys k : Nat))), (10, .one (bv (hasK n.keys k))), (11, ptr b11)] ⟨rfl, by rw [← cnt_eq hrs]; rfl, by rw [← any_eq hrs]; rfl, rfl, trivial⟩ fun T9 => ?_
  repeat (first | (refine LWp.seq (LWp.cut 16 (fun T' S' => S' = Ss ∧ ∃ (T'' : Nat → TV), T' = over T'' [(2, ptr b2), (9, .one (iv (idxN n k : Nat))), (11, ptr b11)]) rfl ?_ ?_); rotate_left) | refine LOps.nil ?_ | refine andThen_normal ?_ | refine andThen_exit ?_ | refine andThen_ret ?_ | refine inBlock_normal ?_ | refine inBlock_ret ?_ | refine inBlock_here ?_ | refine inBlock_out rfl ?_ | refine LWp.seq ?_ | refine LWp.region ?_ | refine LWp.block ?_ | refine LWp.exit ?_ | refine LWp.ret ?_ | refine LWp.skip ?_ | refine LOps.valA ?_ | refine LOps.outA ?_ | refine LOps.whenA ?_ | refine LOps.pickA ?_ | refine LOps.storeA ?_)
  rotate_left
  · repeat (first | refine LOps.nil ?_ | refine andThen_normal ?_ | refine andThen_exit ?_ | refine andThen_ret ?_ | refine inBlock_normal ?_ | refine inBlock_ret ?_ | refine inBlock_here ?_ | refine inBlock_out rfl ?_ | refine LWp.seq ?_ | refine LWp.region ?_ | refine LWp.block ?_ | refine LWp.exit ?_ | refine LWp.ret ?_ | refine LWp.skip ?_ | refine LOps.valA ?_ | refine LOps.outA ?_ | refine LOps.whenA ?_ | refine LOps.pickA ?_ | refine LOps.storeA ?_)
    refine LWp.cond rfl (fun hh => ?_) (fun hh => ?_)
    · have hh : hasK n.keys k = true := hh
      repeat (first | refine LOps.nil ?_ | refine andThen_normal ?_ | refine andThen_exit ?_ | refine andThen_ret ?_ | refine inBlock_normal ?_ | refine inBlock_ret ?_ | refine inBlock_here ?_ | refine inBlock_out rfl ?_ | refine LWp.seq ?_ | refine LWp.region ?_ | refine LWp.block ?_ | refine LWp.exit ?_ | refine LWp.ret ?_ | refine LWp.skip ?_ | refine LOps.valA ?_ | refine LOps.outA ?_ | refine LOps.whenA ?_ | refine LOps.pickA ?_ | refine LOps.storeA ?_)
      exact ⟨rfl, _, holds.over ⟨rfl, by rw [idxN, if_pos hh]; rfl, rfl, trivial⟩⟩
    · have hh : hasK n.keys k = false := hh
      repeat (first | refine LOps.nil ?_ | refine andThen_normal ?_ | refine andThen_exit ?_ | refine andThen_ret ?_ | refine inBlock_normal ?_ | refine inBlock_ret ?_ | refine inBlock_here ?_ | refine inBlock_out rfl ?_ | refine LWp.seq ?_ | refine LWp.region ?_ | refine LWp.block ?_ | refine LWp.exit ?_ | refine LWp.ret ?_ | refine LWp.skip ?_ | refine LOps.valA ?_ | refine LOps.outA ?_ | refine LOps.whenA ?_ | refine LOps.pickA ?_ | refine LOps.storeA ?_)
      exact ⟨rfl, _, holds.over ⟨rfl, by rw [idxN, if_neg (by rw [hh]; decide)]; rfl, rfl, trivial⟩⟩
  rintro _ S5 ⟨hS5, T5, rfl⟩
  subst hS5
  have eh : EqTy G.P D 26 := by rw [hP]; exact ⟨by kernel_rfl, by kernel_rfl⟩
  repeat (first | refine LOps.nil ?_ | refine andThen_normal ?_ | refine andThen_exit ?_ | refine andThen_ret ?_ | refine inBlock_normal ?_ | refine inBlock_ret ?_ | refine inBlock_here ?_ | refine inBlock_out rfl ?_ | refine LWp.seq ?_ | refine LWp.region ?_ | refine LWp.block ?_ | refine LWp.exit ?_ | refine LWp.ret ?_ | refine LWp.skip ?_ | refine LOps.valA ?_ | refine LOps.outA ?_ | refine LOps.whenA ?_ | refine LOps.pickA ?_ | refine LOps.storeA ?_)
  refine LWp.drawL [0, 1, 2, 3, 4, 5, 6, 7] (by rw [hP]; rfl) rfl ?_
  repeat (first | refine LRl.valH (LVal.load hD rfl rfl k2 rfl rfl) ?_ (fun _ hS => LVal.load hD rfl rfl (hS.box _ _ k2 (by first | exact id | (intro hx; rcases hx with hx | hx <;> omega) | (intro hx; have hx2 : _ = _ := hx; omega) | (intro hx; exact absurd hx.1 (by decide)))) rfl rfl) | refine LRl.valH (LVal.load hD rfl rfl k11 rfl rfl) ?_ (fun _ hS => LVal.load hD rfl rfl (hS.box _ _ k11 (by first | exact id | (intro hx; rcases hx with hx | hx <;> omega) | (intro hx; have hx2 : _ = _ := hx; omega) | (intro hx; exact absurd hx.1 (by decide)))) rfl rfl) | refine LRl.nil ?_ | refine LRl.valA ?_ | refine LRl.outA ?_ | refine LRl.whenA ?_ | refine LRl.pickA ?_)
  repeat (first | refine LOps.nil ?_ | refine andThen_normal ?_ | refine andThen_exit ?_ | refine andThen_ret ?_ | refine inBlock_normal ?_ | refine inBlock_ret ?_ | refine inBlock_here ?_ | refine inBlock_out rfl ?_ | refine LWp.seq ?_ | refine LWp.region ?_ | refine LWp.block ?_ | refine LWp.exit ?_ | refine LWp.ret ?_ | refine LWp.skip ?_ | refine LOps.valA ?_ | refine LOps.outA ?_ | refine LOps.whenA ?_ | refine LOps.pickA ?_ | refine LOps.storeA ?_)
  refine ⟨_, LRes.one rfl, ?_⟩
  show TV.one (bv (eqHd n.kids[idxN n k] n.kids[idxN n k])) = _
  rw [eqHd_iff.2 rfl]
end Go.Proofs.Ytjcpcgneghanfaa.LF

namespace Go.Proofs.Ytjcpcgneghanfaa
open Go.RowKit LF
theorem blnodeReads_walk (W : World) (v0 : Value) (l0 : List LV) (y0 : Typed LF.D 28 l0) (g0 : RepT (G0 Try.prog W) W (allCells W) (argTV ti28 l0) v0) (v1 : Value) (l1 : List LV) (y1 : Typed LF.D 9 l1) (g1 : RepT (G0 Try.prog W) W (allCells W) (argTV ti9 l1) v1) :
    Calls Try.prog 3 #[v0, v1] W fun e W' => e = .returned (.bool true) ∧ Below W.heap.size W W' := by
  obtain ⟨n, rfl, hz⟩ := typed_nd y0
  obtain ⟨k, rfl, hk⟩ := typed_key y1
  exact law_calls (fun G S h => reads_L h n hz k hk S) (.cons (vs := [v1]) g0 (.cons (vs := []) g1 .nil))
end Go.Proofs.Ytjcpcgneghanfaa
