/- The directory that acts made; the laws' small example. -/
import Derived.Test.YtkjbdldjfjkneaaLDg
import Derived.Test.YtkjbdldjfjkneaaLFs
set_option linter.unusedVariables false
set_option linter.unusedSimpArgs false
namespace Go.Proofs.Ytkjbdldjfjkneaa.LF
open Go.RowKit
set_option linter.unusedVariables false

structure Okd (d : Dv Int) : Prop where
  wf : d.wf
  few : d.los.length ≤ 16
  short : ∀ x ∈ d.los, x.size ≤ 60
theorem Okd.first : Okd firstD := by
  refine ⟨⟨rfl, by decide, ?_, rfl⟩, by decide, ?_⟩
  · intro i j hij hj
    have : j < 1 := hj
    omega
  · intro x hx
    simp only [List.mem_singleton] at hx
    rw [hx]; exact Nat.zero_le _
theorem repD_cases {d : Dv Int} (h : Okd d) (i n : Int) {los : List ByteArray} (hs : ∀ x ∈ los, x.size ≤ 60) (xs : List Int) :
    repDI (some d) i n los xs = (none, 5) ∨ repDI (some d) i n los xs = (none, 21) ∨ (∃ d', repDI (some d) i n los xs = (some d', 0) ∧ Okd d' ∧ d' = d.rep i.toNat n.toNat los xs ∧ d.fit i n los ∧ los.length = xs.length) := by
  simp only [repDI, Dv.replace]
  split
  · rename_i h1
    split
    · exact .inl rfl
    · rename_i h2
      refine .inr (.inr ⟨_, rfl, ?_, rfl, h1.2, h1.1⟩)
      obtain ⟨k1, k2⟩ := Dv.rep_wf h.wf h1.2 h1.1 (by omega)
      refine ⟨k1, k2, fun x hx => ?_⟩
      simp only [Dv.rep, List.mem_append] at hx
      rcases hx with (hx | hx) | hx
      · exact h.short x (List.mem_of_mem_take hx)
      · exact hs x hx
      · exact h.short x (List.mem_of_mem_drop hx)
  · exact .inr (.inl rfl)
theorem atD_short {d : Dv Int} (h : Okd d) (i : Int) : (atDI (some d) i).1.size ≤ 60 := by
  simp only [atDI]
  split
  · rename_i hi
    show (d.los.getD i.toNat noBytes).size ≤ 60
    rw [getD_at (by omega)]
    exact h.short _ (List.getElem_mem _)
  · exact Nat.zero_le _
theorem okAct_at {a : ActV} (h : okAct a = true) : a.at'.size ≤ 60 ∧ a.los.length ≤ 40 ∧ ∀ x ∈ a.los, x.size ≤ 60 := by
  unfold okAct at h
  rw [Bool.and_eq_true, Bool.and_eq_true, decide_eq_true_iff, decide_eq_true_iff, List.all_eq_true] at h
  exact ⟨h.1.1, h.1.2, fun x hx => of_decide_eq_true (h.2 x hx)⟩
theorem againD_cases {d : Dv Int} (h : Okd d) {a : ActV} (ha : okAct a = true) (x : Int) :
    (∃ e, againD (some d) a x = (none, e) ∧ e ≠ 0) ∨ (∃ d', againD (some d) a x = (some d', 0) ∧ Okd d') := by
  obtain ⟨a1, a2, a3⟩ := okAct_at ha
  have key : ∀ (i n : Int) (los : List ByteArray) (xs : List Int), (∀ x ∈ los, x.size ≤ 60) → (∃ e, repDI (some d) i n los xs = (none, e) ∧ e ≠ 0) ∨ (∃ d', repDI (some d) i n los xs = (some d', 0) ∧ Okd d') := fun i n los xs hs => by
    rcases repD_cases h i n hs xs with h1 | h1 | ⟨d', h1, h2, _⟩
    · exact .inl ⟨_, h1, by decide⟩
    · exact .inl ⟨_, h1, by decide⟩
    · exact .inr ⟨d', h1, h2⟩
  have hat := atD_short h a.i
  unfold againD
  split
  · exact key _ _ _ _ (by simp only [List.mem_cons, List.not_mem_nil, or_false]; exact fun x hx => hx.elim (fun e => e ▸ hat) (fun e => e ▸ a1))
  split
  · exact key _ _ _ _ (by simp only [List.mem_cons, List.not_mem_nil, or_false]; exact fun x e => e ▸ hat)
  split
  · exact key _ _ _ _ a3
  · exact .inl ⟨_, rfl, by decide⟩

def actD (d : Dv Int) (a : ActV) (x : Int) : Dv Int := if (againD (some d) a x).2 = 0 then (againD (some d) a x).1.getD d else d
theorem actD_no {d : Dv Int} {a : ActV} {x e : Int} (h : againD (some d) a x = (none, e)) (he : e ≠ 0) : actD d a x = d := by
  unfold actD; rw [h]; exact if_neg he
theorem actD_yes {d d' : Dv Int} {a : ActV} {x : Int} (h : againD (some d) a x = (some d', 0)) : actD d a x = d' := by
  unfold actD; rw [h]; rfl
theorem actD_ok {d : Dv Int} (h : Okd d) {a : ActV} (ha : okAct a = true) (x : Int) : Okd (actD d a x) := by
  rcases againD_cases h ha x with ⟨e, h1, h2⟩ | ⟨d', h1, h2⟩
  · rw [actD_no h1 h2]; exact h
  · rw [actD_yes h1]; exact h2
def runA (f : Nat → Int) (l : List ActV) : Nat → Dv Int
  | 0 => firstD
  | k + 1 => match l[k]? with
    | some a => actD (runA f l k) a (f k)
    | none => runA f l k
theorem runA_succ (f : Nat → Int) {l : List ActV} {k : Nat} (h : k < l.length) : runA f l (k + 1) = actD (runA f l k) l[k] (f k) := by
  simp only [runA, List.getElem?_eq_getElem h]
theorem runA_ok (f : Nat → Int) {l : List ActV} (h : l.all okAct = true) : ∀ k, Okd (runA f l k) := by
  intro k
  induction k with
  | zero => exact Okd.first
  | succ k ih =>
    rcases Nat.lt_or_ge k l.length with h1 | h1
    · rw [runA_succ f h1]
      exact actD_ok ih (List.all_eq_true.1 h _ (List.getElem_mem h1)) _
    · simp only [runA, List.getElem?_eq_none h1]; exact ih
theorem greatA_no {l : List ActV} (h : greatA l = false) : l.length ≤ 100 ∧ l.all okAct = true := by
  unfold greatA at h
  rw [Bool.or_eq_false_iff, decide_eq_false_iff_not, Bool.not_eq_false'] at h
  exact ⟨by omega, h.2⟩

abbrev w7 : Dv Int := ⟨[noBytes], [7]⟩
abbrev w8 : Dv Int := ⟨[noBytes, ⟨#[109]⟩], [8, 9]⟩
abbrev w5 : Dv Int := ⟨[noBytes], [5]⟩
theorem w7_wf : w7.wf := ⟨rfl, by decide, fun i j hij hj => by have : j < 1 := hj; omega, rfl⟩
theorem w8_wf : w8.wf := ⟨rfl, by decide, Asc.rises (by decide +kernel), rfl⟩
theorem some_wf {d : Dv Int} (h : d.wf) : ∀ x, some d = some x → x.wf := fun x e => by injection e with e; rw [← e]; exact h
theorem k1 : splitDI (some w7) 0 ⟨#[109]⟩ 8 9 = (some w8, 0) := by kernel_rfl
theorem k2 : findDI (some w8) ⟨#[107]⟩ = (0, 8) := by kernel_rfl
theorem k3 : findDI (some w8) ⟨#[109]⟩ = (1, 9) := by kernel_rfl
theorem k4 : hiDI (some w8) 0 = (⟨#[109]⟩, true) := by kernel_rfl
theorem k5 : mergeDI (some w8) 0 5 = (some w5, 0) := by kernel_rfl

set_option maxHeartbeats 4000000 in
theorem wakes_F {G : Ctx} (hP : G.P = Try.prog) : LFun G 10 [] (.one (bv true)) := LFun.of fun S => by
  have hD : TabOK G.P D := by rw [hP]; exact hD0
  have h1 := newI_F hP 7
  have h2 := splitI_F hP (some w7) (some_wf w7_wf) 0 ⟨#[109]⟩ 8 9
  have h3 := findI_F hP (some w8) (some_wf w8_wf) ⟨#[107]⟩
  have h4 := findI_F hP (some w8) (some_wf w8_wf) ⟨#[109]⟩
  have h5 := hiI_F hP (some w8) (fun x e => (some_wf w8_wf x e).small) 0
  have h6 := mergeI_F hP (some w8) (some_wf w8_wf) 0 5
  have h7 := lenI_F hP (some w5)
  rw [k1] at h2; rw [k2] at h3; rw [k3] at h4; rw [k4] at h5; rw [k5] at h6
  refine LCalls.enter (fn := Try.f10) (by rw [hP]; exact Try.func10) rfl rfl ?_
  repeat (first | refine LWp.condF rfl ?_ | refine LOps.nil ?_ | refine andThen_normal ?_ | refine andThen_exit ?_ | refine andThen_ret ?_ | refine inBlock_normal ?_ | refine inBlock_ret ?_ | refine inBlock_here ?_ | refine inBlock_out rfl ?_ | refine LWp.seq ?_ | refine LWp.region ?_ | refine LWp.block ?_ | refine LWp.exit ?_ | refine LWp.ret ?_ | refine LWp.skip ?_ | refine LOps.val (LVal.call rfl rfl (by rw [hP]; exact Try.func11) rfl (by decide) (h1)) rfl rfl rfl ?_ | refine LOps.val (LVal.call rfl rfl (by rw [hP]; exact Try.func30) rfl (by decide) (h2)) rfl rfl rfl ?_ | refine LOps.val (LVal.call rfl rfl (by rw [hP]; exact Try.func13) rfl (by decide) (h3)) rfl rfl rfl ?_ | refine LOps.val (LVal.call rfl rfl (by rw [hP]; exact Try.func13) rfl (by decide) (h4)) rfl rfl rfl ?_ | refine LOps.val (LVal.call rfl rfl (by rw [hP]; exact Try.func16) rfl (by decide) (h5)) rfl rfl rfl ?_ | refine LOps.val (LVal.call rfl rfl (by rw [hP]; exact Try.func31) rfl (by decide) (h6)) rfl rfl rfl ?_ | refine LOps.val (LVal.call rfl rfl (by rw [hP]; exact Try.func14) rfl (by decide) (h7)) rfl rfl rfl ?_ | refine LOps.whenC (LVal.call rfl rfl (by rw [hP]; exact Try.func11) rfl (by decide) (h1)) ?_ | refine LOps.whenC (LVal.call rfl rfl (by rw [hP]; exact Try.func30) rfl (by decide) (h2)) ?_ | refine LOps.whenC (LVal.call rfl rfl (by rw [hP]; exact Try.func13) rfl (by decide) (h3)) ?_ | refine LOps.whenC (LVal.call rfl rfl (by rw [hP]; exact Try.func13) rfl (by decide) (h4)) ?_ | refine LOps.whenC (LVal.call rfl rfl (by rw [hP]; exact Try.func16) rfl (by decide) (h5)) ?_ | refine LOps.whenC (LVal.call rfl rfl (by rw [hP]; exact Try.func31) rfl (by decide) (h6)) ?_ | refine LOps.whenC (LVal.call rfl rfl (by rw [hP]; exact Try.func14) rfl (by decide) (h7)) ?_ | refine LOps.valA ?_ | refine LOps.outA ?_ | refine LOps.whenA ?_ | refine LOps.pickA ?_ | refine LOps.storeA ?_)
  exact ⟨_, LRes.one rfl, rfl, .refl _⟩

theorem wf_u8 {n : Int} (h : (Lit.int .u8 n).wf = true) : 0 ≤ n ∧ n < 256 := by
  simp [Lit.wf, IntKind.min, IntKind.max, IntKind.signed, IntKind.bits] at h
  omega
theorem typed_act {l : List LV} (h : Typed D 32 l) : ∃ a : ActV, l = actL a ∧ (0 ≤ a.kind ∧ a.kind < 256) := by
  obtain ⟨h1, h2⟩ := typed_struct rfl rfl h
  match l, h1 with
  | [a0, a1, a2, a3, a4], _ =>
    obtain ⟨x0, e0, w0⟩ := typed_int rfl rfl (h2 0 _ _ rfl rfl)
    obtain ⟨x1, e1, _⟩ := typed_int rfl rfl (h2 1 _ _ rfl rfl)
    obtain ⟨x2, e2, _⟩ := typed_int rfl rfl (h2 2 _ _ rfl rfl)
    obtain ⟨x3, e3, _⟩ := typed_str rfl rfl (h2 3 _ _ rfl rfl)
    obtain ⟨es, e4, h4, _⟩ := typed_slice rfl rfl rfl (h2 4 _ _ rfl rfl)
    obtain ⟨ls, rfl⟩ := typed_all (f := sL) h4 fun c hc => by
      obtain ⟨s, rfl, _⟩ := typed_str rfl rfl hc; exact ⟨s, rfl⟩
    simp only [List.drop_zero, List.take_succ_cons, List.take_zero, List.drop_succ_cons] at e0 e1 e2 e3 e4
    cases e0; cases e1; cases e2; cases e3; cases e4
    exact ⟨⟨x0, x1, x2, x3, ls⟩, rfl, wf_u8 w0⟩
theorem typed_acts {l : List LV} (h : Typed D 22 l) : ∃ xs : List ActV, l = [.sl .sh (xs.map actL)] ∧ ∀ a ∈ xs, 0 ≤ a.kind ∧ a.kind < 256 := by
  obtain ⟨es, rfl, h1, _⟩ := typed_slice rfl rfl rfl h
  have key : ∀ es : List (List LV), (∀ c ∈ es, Typed D 32 c) → ∃ xs : List ActV, es = xs.map actL ∧ ∀ a ∈ xs, 0 ≤ a.kind ∧ a.kind < 256 := by
    intro es
    induction es with
    | nil => intro _; exact ⟨[], rfl, fun x hx => by cases hx⟩
    | cons c es ih =>
      intro h
      obtain ⟨xs, rfl, hx⟩ := ih fun c hc => h c (List.mem_cons_of_mem _ hc)
      obtain ⟨x, rfl, ht⟩ := typed_act (h c (by simp))
      refine ⟨x :: xs, rfl, fun y hy => ?_⟩
      rcases List.mem_cons.1 hy with rfl | hy
      · exact ht
      · exact hx y hy
  obtain ⟨xs, rfl, hx⟩ := key es h1
  exact ⟨xs, rfl, hx⟩
end Go.Proofs.Ytkjbdldjfjkneaa.LF
