/- The directory's data, for any instance; the binary search. -/
import Derived.Test.YtkjbdldjfjkneaaLKa
import Derived.Test.YtkjbdldjfjkneaaLFzb
set_option linter.unusedVariables false
set_option linter.unusedSimpArgs false
namespace Go.Proofs.Ytkjbdldjfjkneaa.LF
open Go.RowKit
set_option linter.unusedVariables false

abbrev sL (s : ByteArray) : List LV := [sv s]
abbrev iL (x : Int) : List LV := [iv x]
structure Dv (τ : Type) where
  los : List ByteArray
  xs : List τ
/-- A greater one is behind. -/
def Rises (l : List ByteArray) : Prop := ∀ (i j : Nat) (hi : i < j) (hj : j < l.length), ltS l[i] l[j] = true
structure Dv.wf {τ : Type} (d : Dv τ) : Prop where
  len : d.los.length = d.xs.length
  small : d.los.length ≤ 1000000
  rises : Rises d.los
  first : d.los[0]? = some noBytes
theorem Dv.wf.pos {τ : Type} {d : Dv τ} (h : d.wf) : 0 < d.los.length := (List.getElem?_eq_some_iff.1 h.first).1

/-- How many are below a key; whether it is there. -/
def cntB (l : List ByteArray) (key : ByteArray) : Nat := (l.takeWhile fun x => ltS x key).length
def hasB (l : List ByteArray) (key : ByteArray) : Bool := decide (l[cntB l key]? = some key)
theorem cntB_le (l : List ByteArray) (key : ByteArray) : cntB l key ≤ l.length := by
  unfold cntB
  exact (List.takeWhile_prefix _).length_le
theorem cntB_lt : ∀ {l : List ByteArray} {key : ByteArray} {i : Nat}, i < cntB l key → ∀ (hl : i < l.length), ltS l[i] key = true
  | [], _, _, h, hl => by simp at hl
  | x :: l, key, i, h, hl => by
    unfold cntB at h
    by_cases hx : ltS x key = true
    · simp only [List.takeWhile_cons, hx, if_true, List.length_cons] at h
      cases i with
      | zero => exact hx
      | succ i => exact cntB_lt (l := l) (by unfold cntB; omega) (by simpa using hl)
    · have hx : ltS x key = false := by simpa using hx
      simp only [List.takeWhile_cons, hx, Bool.false_eq_true, if_false, List.length_nil] at h
      omega
theorem cntB_stop {l : List ByteArray} {key : ByteArray} (hl : cntB l key < l.length) : ltS l[cntB l key] key = false := by
  induction l with
  | nil => simp at hl
  | cons x l ih =>
    unfold cntB at hl ⊢
    by_cases hx : ltS x key = true
    · simp only [List.takeWhile_cons, hx, if_true, List.length_cons] at hl ⊢
      exact ih (by unfold cntB; omega)
    · have hx : ltS x key = false := by simpa using hx
      simp only [List.takeWhile_cons, hx, Bool.false_eq_true, if_false, List.length_nil, List.getElem_cons_zero]
theorem cntB_ge {l : List ByteArray} (hr : Rises l) {key : ByteArray} {i : Nat} (h : cntB l key ≤ i) (hl : i < l.length) : ltS l[i] key = false := by
  have h1 := cntB_stop (l := l) (key := key) (by omega)
  rcases Nat.lt_or_ge (cntB l key) i with h2 | h2
  · have h3 := hr _ _ h2 hl
    cases hq : ltS l[i] key with
    | false => rfl
    | true => have := ltS_trans h3 hq; rw [h1] at this; cases this
  · obtain rfl : i = cntB l key := by omega
    exact h1
theorem cntB_of {l : List ByteArray} {key : ByteArray} {n : Nat} (hn : n ≤ l.length) (h1 : ∀ (i : Nat) (hi : i < n), ltS (l[i]'(by omega)) key = true) (h2 : ∀ (h : n < l.length), ltS l[n] key = false) : cntB l key = n := by
  have hle := cntB_le l key
  rcases Nat.lt_trichotomy (cntB l key) n with h | h | h
  · have := cntB_stop (l := l) (key := key) (by omega)
    rw [h1 _ h] at this; cases this
  · exact h
  · have := cntB_lt h (by omega)
    rw [h2 (by omega)] at this; cases this
/-- The place of the one that has a key. -/
def Dv.spot {τ : Type} (d : Dv τ) (key : ByteArray) : Nat := if hasB d.los key then cntB d.los key else cntB d.los key - 1
theorem ltS_empty (k : ByteArray) : ltS k noBytes = false := by
  unfold ltS
  exact ltB_no (List.not_lt_nil _)
theorem Dv.wf.spot_yes {τ : Type} {d : Dv τ} (h : d.wf) (key : ByteArray) (hf : hasB d.los key = true) : d.spot key = cntB d.los key := by simp [Dv.spot, hf]
theorem Dv.wf.spot_no {τ : Type} {d : Dv τ} (h : d.wf) (key : ByteArray) (hf : hasB d.los key = false) : d.spot key + 1 = cntB d.los key := by
  have hp := h.pos
  have h0 : d.los[0] = noBytes := by
    have := h.first
    rw [List.getElem?_eq_getElem hp] at this
    exact Option.some.inj this
  have : 0 < cntB d.los key := by
    rcases Nat.eq_zero_or_pos (cntB d.los key) with e | e
    · exfalso
      have h1 := cntB_stop (l := d.los) (key := key) (by omega)
      simp only [e] at h1
      rw [h0] at h1
      have h2 := ltS_empty key
      have h3 := ltS_total h1 h2
      unfold hasB at hf
      rw [e, h.first, h3] at hf
      simp at hf
    · exact e
  simp [Dv.spot, hf]; omega
theorem Dv.wf.spot_lt {τ : Type} {d : Dv τ} (h : d.wf) (key : ByteArray) : d.spot key < d.los.length := by
  cases hf : hasB d.los key with
  | true =>
    rw [h.spot_yes key hf]
    unfold hasB at hf
    exact (List.getElem?_eq_some_iff.1 (of_decide_eq_true hf)).1
  | false =>
    have := h.spot_no key hf
    have := cntB_le d.los key
    omega

set_option maxHeartbeats 4000000 in
theorem bs_F {G : Ctx} (hP : G.P = Try.prog) (l : List ByteArray) (hl : l.length ≤ 1000000) (key : ByteArray) (hr : Rises l) : LFun G 37 [.one (.sl .sh (l.map sL)), .one (sv key), .one (.v (.func (.func 38) #[] #[]))] (.tup [.one (iv (cntB l key : Nat)), .one (bv (hasB l key))]) := LFun.of fun S => by
  have hD : TabOK G.P D := by rw [hP]; exact hD0
  have hml : (l.map sL).length = l.length := List.length_map ..
  refine LCalls.enter (fn := Try.f37) (by rw [hP]; exact Try.func37) rfl rfl ?_
  repeat (first | refine LWp.seq (LWp.cut 3 (fun T' S' => S' = S ∧ ∃ T'', T' = over T'' [(0, .one (.sl .sh (l.map sL))), (1, .one (sv key)), (2, .one (.v (.func (.func 38) #[] #[]))), (8, .one (iv (l.length : Nat))), (9, .one (iv (cntB l key : Nat)))]) rfl ?_ ?_) | refine LOps.nil ?_ | refine andThen_normal ?_ | refine andThen_exit ?_ | refine andThen_ret ?_ | refine inBlock_normal ?_ | refine inBlock_ret ?_ | refine inBlock_here ?_ | refine inBlock_out rfl ?_ | refine LWp.seq ?_ | refine LWp.region ?_ | refine LWp.block ?_ | refine LWp.exit ?_ | refine LWp.ret ?_ | refine LWp.skip ?_ | refine LOps.valA ?_ | refine LOps.outA ?_ | refine LOps.whenA ?_ | refine LOps.pickA ?_ | refine LOps.storeA ?_)
  · refine LWp.loop (fun k T S' => S' = S ∧ ∃ (T' : Nat → TV) (i j : Nat), i ≤ j ∧ j ≤ l.length ∧ k = j - i ∧ (∀ (q : Nat) (hq : q < i) (hl : q < l.length), ltS l[q] key = true) ∧ (∀ (q : Nat) (hq : j ≤ q) (hl : q < l.length), ltS l[q] key = false) ∧
      T = over T' [(0, .one (.sl .sh (l.map sL))), (1, .one (sv key)), (2, .one (.v (.func (.func 38) #[] #[]))), (8, .one (iv (l.length : Nat))), (9, .one (iv (i : Nat))), (10, .one (iv (j : Nat)))]) l.length ?_ ?_
    · exact ⟨rfl, _, 0, l.length, by omega, by omega, rfl, fun q hq => by omega, fun q hq hl => by omega, holds.over ⟨rfl, rfl, rfl, by rw [← hml]; rfl, rfl, by rw [← hml]; rfl, trivial⟩⟩
    rintro k T S1 ⟨rfl, T', i, j, hij, hjl, rfl, hlo, hhi, rfl⟩
    repeat (first | refine LOps.nil ?_ | refine andThen_normal ?_ | refine andThen_exit ?_ | refine andThen_ret ?_ | refine inBlock_normal ?_ | refine inBlock_ret ?_ | refine inBlock_here ?_ | refine inBlock_out rfl ?_ | refine LWp.seq ?_ | refine LWp.region ?_ | refine LWp.block ?_ | refine LWp.exit ?_ | refine LWp.ret ?_ | refine LWp.skip ?_ | refine LOps.valA ?_ | refine LOps.outA ?_ | refine LOps.whenA ?_ | refine LOps.pickA ?_ | refine LOps.storeA ?_)
    refine LWp.cond rfl (fun h => ?_) (fun h => ?_)
    · have hlt : i < j := by simp at h; omega
      have hmid : (i + j) / 2 < l.length := by omega
      have e1 : (((i : Int) + (j : Int)) / 2 ^ (1 : Int).toNat) = (((i + j) / 2 : Nat) : Int) := by
        show ((i : Int) + (j : Int)) / 2 = _
        omega
      have hc := cmp_F hP l[(i + j) / 2] key
      repeat (first | refine LOps.val (r := .one (.v (.int .u64 (((i + j) / 2 : Nat) : Int)))) (LVal.to (LVal.shr64 rfl rfl rfl (by omega)) (by rw [e1])) rfl rfl rfl ?_ | refine LOps.nil ?_ | refine andThen_normal ?_ | refine andThen_exit ?_ | refine andThen_ret ?_ | refine inBlock_normal ?_ | refine inBlock_ret ?_ | refine inBlock_here ?_ | refine inBlock_out rfl ?_ | refine LWp.seq ?_ | refine LWp.region ?_ | refine LWp.block ?_ | refine LWp.exit ?_ | refine LWp.ret ?_ | refine LWp.skip ?_ | refine LOps.valA ?_ | refine LOps.outA ?_ | refine LOps.whenA ?_ | refine LOps.pickA ?_ | refine LOps.storeA ?_)
      refine LOps.val (LVal.callF2 (f := 38) rfl rfl rfl (by rw [hP]; exact Try.func38) rfl (by decide) hc) rfl rfl rfl ?_
      repeat (first | refine LOps.nil ?_ | refine andThen_normal ?_ | refine andThen_exit ?_ | refine andThen_ret ?_ | refine inBlock_normal ?_ | refine inBlock_ret ?_ | refine inBlock_here ?_ | refine inBlock_out rfl ?_ | refine LWp.seq ?_ | refine LWp.region ?_ | refine LWp.block ?_ | refine LWp.exit ?_ | refine LWp.ret ?_ | refine LWp.skip ?_ | refine LOps.valA ?_ | refine LOps.outA ?_ | refine LOps.whenA ?_ | refine LOps.pickA ?_ | refine LOps.storeA ?_)
      refine LWp.cond rfl (fun h => ?_) (fun h => ?_)
      · have hb : ltS l[(i + j) / 2] key = true := cmpS_lt.1 (by simpa using h)
        repeat (first | refine LOps.nil ?_ | refine andThen_normal ?_ | refine andThen_exit ?_ | refine andThen_ret ?_ | refine inBlock_normal ?_ | refine inBlock_ret ?_ | refine inBlock_here ?_ | refine inBlock_out rfl ?_ | refine LWp.seq ?_ | refine LWp.region ?_ | refine LWp.block ?_ | refine LWp.exit ?_ | refine LWp.ret ?_ | refine LWp.skip ?_ | refine LOps.valA ?_ | refine LOps.outA ?_ | refine LOps.whenA ?_ | refine LOps.pickA ?_ | refine LOps.storeA ?_)
        refine ⟨j - ((i + j) / 2 + 1), by omega, rfl, _, (i + j) / 2 + 1, j, by omega, hjl, rfl, fun q hq hl => ?_, hhi, holds.over ⟨rfl, rfl, rfl, rfl, rfl, rfl, trivial⟩⟩
        rcases Nat.lt_or_ge q ((i + j) / 2) with h2 | h2
        · exact ltS_trans (hr _ _ h2 hmid) hb
        · obtain rfl : q = (i + j) / 2 := by omega
          exact hb
      · have hb : ltS l[(i + j) / 2] key = false := by
          have h : decide (cmpS l[(i + j) / 2] key < 0) = false := h
          rw [decide_eq_false_iff_not, cmpS_lt] at h
          simpa using h
        repeat (first | refine LOps.nil ?_ | refine andThen_normal ?_ | refine andThen_exit ?_ | refine andThen_ret ?_ | refine inBlock_normal ?_ | refine inBlock_ret ?_ | refine inBlock_here ?_ | refine inBlock_out rfl ?_ | refine LWp.seq ?_ | refine LWp.region ?_ | refine LWp.block ?_ | refine LWp.exit ?_ | refine LWp.ret ?_ | refine LWp.skip ?_ | refine LOps.valA ?_ | refine LOps.outA ?_ | refine LOps.whenA ?_ | refine LOps.pickA ?_ | refine LOps.storeA ?_)
        refine ⟨(i + j) / 2 - i, by omega, rfl, _, i, (i + j) / 2, by omega, by omega, rfl, hlo, fun q hq hl => ?_, holds.over ⟨rfl, rfl, rfl, rfl, rfl, rfl, trivial⟩⟩
        rcases Nat.lt_or_ge ((i + j) / 2) q with h2 | h2
        · cases hq : ltS l[q] key with
          | false => rfl
          | true => have := ltS_trans (hr _ _ h2 hl) hq; rw [hb] at this; cases this
        · obtain rfl : q = (i + j) / 2 := by omega
          exact hb
    · have hge : i = j := by simp at h; omega
      subst hge
      have e : cntB l key = i := cntB_of hjl (fun q hq => hlo q hq (by omega)) (fun h => hhi i (Nat.le_refl _) h)
      repeat (first | refine LOps.nil ?_ | refine andThen_normal ?_ | refine andThen_exit ?_ | refine andThen_ret ?_ | refine inBlock_normal ?_ | refine inBlock_ret ?_ | refine inBlock_here ?_ | refine inBlock_out rfl ?_ | refine LWp.seq ?_ | refine LWp.region ?_ | refine LWp.block ?_ | refine LWp.exit ?_ | refine LWp.ret ?_ | refine LWp.skip ?_ | refine LOps.valA ?_ | refine LOps.outA ?_ | refine LOps.whenA ?_ | refine LOps.pickA ?_ | refine LOps.storeA ?_)
      exact ⟨rfl, _, holds.over ⟨rfl, rfl, rfl, rfl, by rw [e]; rfl, trivial⟩⟩
  rintro T' S ⟨rfl, T'', rfl⟩
  have hle := cntB_le l key
  have hc := cmp_F hP (l.getD (cntB l key) default) key
  repeat (first | refine LOps.whenC (LVal.callF2 (f := 38) rfl rfl rfl (by rw [hP]; exact Try.func38) rfl (by decide) hc) ?_ | refine LOps.nil ?_ | refine andThen_normal ?_ | refine andThen_exit ?_ | refine andThen_ret ?_ | refine inBlock_normal ?_ | refine inBlock_ret ?_ | refine inBlock_here ?_ | refine inBlock_out rfl ?_ | refine LWp.seq ?_ | refine LWp.region ?_ | refine LWp.block ?_ | refine LWp.exit ?_ | refine LWp.ret ?_ | refine LWp.skip ?_ | refine LOps.valA ?_ | refine LOps.outA ?_ | refine LOps.whenA ?_ | refine LOps.pickA ?_ | refine LOps.storeA ?_)
  refine ⟨_, LRes.two rfl, ?_, .refl _⟩
  show TV.tup [.one (iv (cntB l key : Nat)), .one (bv (decide (((cntB l key : Nat) : Int) < ((l.length : Nat) : Int)) && (cmpS (l.getD (cntB l key) default) key == 0)))] = _
  have e : (decide (((cntB l key : Nat) : Int) < ((l.length : Nat) : Int)) && (cmpS (l.getD (cntB l key) default) key == 0)) = hasB l key := by
    unfold hasB
    by_cases hlt : cntB l key < l.length
    · have e1 : l.getD (cntB l key) default = l[cntB l key] := by rw [List.getD_eq_getElem?_getD, List.getElem?_eq_getElem hlt]; rfl
      rw [Bool.eq_iff_iff, e1, Bool.and_eq_true, beq_iff_eq, cmpS_zero, decide_eq_true_iff, decide_eq_true_iff, List.getElem?_eq_getElem hlt, Option.some.injEq]
      exact ⟨fun h => h.2, fun h => ⟨by omega, h⟩⟩
    · rw [List.getElem?_eq_none (by omega), decide_eq_false (by omega)]; simp
  rw [e]
end Go.Proofs.Ytkjbdldjfjkneaa.LF
