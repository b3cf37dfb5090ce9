/- Ahead, Marks, Check, State: the program's and the document's; the law's own words. -/
import Derived.Test.YtmdfjojohfhcgaaLHk
set_option linter.unusedVariables false
set_option linter.unusedSimpArgs false
namespace Go.Proofs.Ytmdfjojohfhcgaa.LF
open Go.RowKit

theorem head1_P {G : Ctx} (hP : G.P = Try.prog) (b4 : Nat) (id : Int) (S : LS) (h4 : S.box b4 = some [iv id]) : Pred G 35 [.pointer (some ⟨b4, 0, none⟩)] (isEv 3 id) S := fun e => by
  have hD : TabOK G.P D := by rw [hP]; exact hD0
  have := LCalls.forget (G := G) (S := S) (f := 35) (args := [.agg (evL e), .one (.v (.pointer (some ⟨b4, 0, none⟩)))]) (Q := fun r _ => r = .one (bv (isEv 3 id e))) (by
    refine LCalls.enter (fn := Try.f35) (by rw [hP]; exact Try.func35) rfl rfl ?_
    repeat (first | refine LOps.nil ?_ | refine andThen_normal ?_ | refine andThen_exit ?_ | refine andThen_ret ?_ | refine inBlock_normal ?_ | refine inBlock_ret ?_ | refine inBlock_here ?_ | refine inBlock_out rfl ?_ | refine LWp.seq ?_ | refine LWp.region ?_ | refine LWp.block ?_ | refine LWp.exit ?_ | refine LWp.ret ?_ | refine LWp.skip ?_ | refine LOps.valA ?_ | refine LOps.outA ?_ | refine LOps.whenA ?_ | refine LOps.pickA ?_ | refine LOps.storeA ?_)
    refine LOps.do (LDo.box rfl rfl) rfl rfl rfl ?_
    rintro _ _ ⟨b3, hb3, rfl, rfl⟩
    have n4 := fresh_ne hb3 h4
    repeat (first | refine LOps.nil ?_ | refine andThen_normal ?_ | refine andThen_exit ?_ | refine andThen_ret ?_ | refine inBlock_normal ?_ | refine inBlock_ret ?_ | refine inBlock_here ?_ | refine inBlock_out rfl ?_ | refine LWp.seq ?_ | refine LWp.region ?_ | refine LWp.block ?_ | refine LWp.exit ?_ | refine LWp.ret ?_ | refine LWp.skip ?_ | refine LOps.valA ?_ | refine LOps.outA ?_ | refine LOps.whenA ?_ | refine LOps.pickA ?_ | refine LOps.storeA ?_)
    exact ⟨_, LRes.one rfl, .newBox (.refl _) hb3 _, rfl⟩)
  intro K w vals h1 h2
  exact (this K w vals h1 h2).mono fun e w' hp => by
    obtain ⟨r, v, S', K', e1, e2, e3, e4, e5, e6⟩ := hp
    exact ⟨r, v, S', K', e1, e2, e3, e4, e6, e5⟩
theorem head2_P {G : Ctx} (hP : G.P = Try.prog) (b4 : Nat) (id : Int) (S : LS) (h4 : S.box b4 = some [iv id]) : Pred G 37 [.pointer (some ⟨b4, 0, none⟩)] (isEv 1 id) S := fun e => by
  have hD : TabOK G.P D := by rw [hP]; exact hD0
  have := LCalls.forget (G := G) (S := S) (f := 37) (args := [.agg (evL e), .one (.v (.pointer (some ⟨b4, 0, none⟩)))]) (Q := fun r _ => r = .one (bv (isEv 1 id e))) (by
    refine LCalls.enter (fn := Try.f37) (by rw [hP]; exact Try.func37) rfl rfl ?_
    repeat (first | refine LOps.nil ?_ | refine andThen_normal ?_ | refine andThen_exit ?_ | refine andThen_ret ?_ | refine inBlock_normal ?_ | refine inBlock_ret ?_ | refine inBlock_here ?_ | refine inBlock_out rfl ?_ | refine LWp.seq ?_ | refine LWp.region ?_ | refine LWp.block ?_ | refine LWp.exit ?_ | refine LWp.ret ?_ | refine LWp.skip ?_ | refine LOps.valA ?_ | refine LOps.outA ?_ | refine LOps.whenA ?_ | refine LOps.pickA ?_ | refine LOps.storeA ?_)
    refine LOps.do (LDo.box rfl rfl) rfl rfl rfl ?_
    rintro _ _ ⟨b3, hb3, rfl, rfl⟩
    have n4 := fresh_ne hb3 h4
    repeat (first | refine LOps.nil ?_ | refine andThen_normal ?_ | refine andThen_exit ?_ | refine andThen_ret ?_ | refine inBlock_normal ?_ | refine inBlock_ret ?_ | refine inBlock_here ?_ | refine inBlock_out rfl ?_ | refine LWp.seq ?_ | refine LWp.region ?_ | refine LWp.block ?_ | refine LWp.exit ?_ | refine LWp.ret ?_ | refine LWp.skip ?_ | refine LOps.valA ?_ | refine LOps.outA ?_ | refine LOps.whenA ?_ | refine LOps.pickA ?_ | refine LOps.storeA ?_)
    exact ⟨_, LRes.one rfl, .newBox (.refl _) hb3 _, rfl⟩)
  intro K w vals h1 h2
  exact (this K w vals h1 h2).mono fun e w' hp => by
    obtain ⟨r, v, S', K', e1, e2, e3, e4, e5, e6⟩ := hp
    exact ⟨r, v, S', K', e1, e2, e3, e4, e6, e5⟩

def aheadS (l : List Ev) (a b : Int) : Bool := match l.findIdx? (isEv 3 a) with
  | none => false
  | some i => decide (idxS (isEv 1 b) (l.drop i) ≥ 0)

theorem idx_nonneg {p : Ev → Bool} {l : List Ev} : idxS p l ≥ 0 ↔ ∃ e ∈ l, p e = true := by
  unfold idxS
  cases hq : l.findIdx? p with
  | none =>
    rw [List.findIdx?_eq_none_iff] at hq
    constructor
    · intro h; simp at h
    · rintro ⟨e, he, hp⟩; rw [hq e he] at hp; cases hp
  | some i =>
    rw [List.findIdx?_eq_some_iff_getElem] at hq
    obtain ⟨h1, h2, _⟩ := hq
    constructor
    · intro _; exact ⟨_, List.getElem_mem h1, h2⟩
    · intro _; simp

theorem isEv_13 {a b : Int} {e : Ev} (h : isEv 3 a e = true) : isEv 1 b e = false := isEv_kind (by have := ((isEv_iff _ _ _).1 h).1; omega)

/-- One is ahead of the other just if some end of the one lies ahead of some beginning of the other. -/
theorem ahead_iff {l : List Ev} {a b : Int} : aheadS l a b = true ↔ ∃ (i : Nat) (hi : i < l.length), isEv 3 a l[i] = true ∧ ∃ e ∈ l.drop (i + 1), isEv 1 b e = true := by
  unfold aheadS
  cases hq : l.findIdx? (isEv 3 a) with
  | none =>
    rw [List.findIdx?_eq_none_iff] at hq
    constructor
    · intro h; cases h
    · rintro ⟨i, hi, h, _⟩; rw [hq _ (List.getElem_mem hi)] at h; cases h
  | some i =>
    rw [List.findIdx?_eq_some_iff_getElem] at hq
    obtain ⟨h1, h2, h3⟩ := hq
    simp only [decide_eq_true_eq]
    rw [idx_nonneg, List.drop_eq_getElem_cons h1]
    constructor
    · rintro ⟨e, he, hp⟩
      rcases List.mem_cons.1 he with rfl | he
      · rw [isEv_13 h2] at hp; cases hp
      · exact ⟨i, h1, h2, e, he, hp⟩
    · rintro ⟨j, hj, hp, e, he, hpe⟩
      have hij : i ≤ j := by
        rcases Nat.lt_or_ge j i with hlt | hge
        · have := h3 j hlt; rw [hp] at this; simp at this
        · exact hge
      refine ⟨e, List.mem_cons_of_mem _ ?_, hpe⟩
      have : l.drop (j + 1) = (l.drop (i + 1)).drop (j - i) := by rw [List.drop_drop]; congr 1; omega
      rw [this] at he
      exact List.mem_of_mem_drop he

set_option maxHeartbeats 4000000 in
theorem ahead_F {G : Ctx} (hP : G.P = Try.prog) (l : List Ev) (hl : l.length ≤ 1000000) (a b : Int) : LFun G 20 [.one (.sl .sh (l.map evL)), .one (iv a), .one (iv b)] (.one (bv (aheadS l a b))) := LFun.of fun S => by
  have hD : TabOK G.P D := by rw [hP]; exact hD0
  refine LCalls.enter (fn := Try.f20) (by rw [hP]; exact Try.func20) rfl rfl ?_
  repeat (first | refine LOps.nil ?_ | refine andThen_normal ?_ | refine andThen_exit ?_ | refine andThen_ret ?_ | refine inBlock_normal ?_ | refine inBlock_ret ?_ | refine inBlock_here ?_ | refine inBlock_out rfl ?_ | refine LWp.seq ?_ | refine LWp.region ?_ | refine LWp.block ?_ | refine LWp.exit ?_ | refine LWp.ret ?_ | refine LWp.skip ?_ | refine LOps.valA ?_ | refine LOps.outA ?_ | refine LOps.whenA ?_ | refine LOps.pickA ?_ | refine LOps.storeA ?_)
  refine LOps.do (LDo.box rfl rfl) rfl rfl rfl ?_
  rintro _ _ ⟨b4, hb4, rfl, rfl⟩
  repeat (first | refine LOps.nil ?_ | refine andThen_normal ?_ | refine andThen_exit ?_ | refine andThen_ret ?_ | refine inBlock_normal ?_ | refine inBlock_ret ?_ | refine inBlock_here ?_ | refine inBlock_out rfl ?_ | refine LWp.seq ?_ | refine LWp.region ?_ | refine LWp.block ?_ | refine LWp.exit ?_ | refine LWp.ret ?_ | refine LWp.skip ?_ | refine LOps.valA ?_ | refine LOps.outA ?_ | refine LOps.whenA ?_ | refine LOps.pickA ?_ | refine LOps.storeA ?_)
  refine LOps.do (LDo.box rfl rfl) rfl rfl rfl ?_
  rintro _ _ ⟨b5, hb5, rfl, rfl⟩
  have n45 : b4 ≠ b5 := fresh_ne hb5 (box_new _ _ _)
  refine LOps.gen (fun S1 => S.le S1 ∧ S1.box b4 = some [iv a] ∧ S1.box b5 = some [iv b]) ⟨(LS.le.newBox (.refl _) hb4 _).newBox hb5 _, (box_new_ne _ _ n45).trans (box_new _ _ _), box_new _ _ _⟩ ?_
  clear hb4 hb5
  rintro S1 ⟨le1, k4, k5⟩
  have hi := index_L hP 35 Try.f35 (by rw [hP]; exact Try.func35) rfl (by decide) [.pointer (some ⟨b4, 0, none⟩)] rfl (isEv 3 a) l hl S1 (head1_P hP b4 a S1 k4)
  repeat (first | refine LOps.val (LVal.makeFunc (vs := [.pointer (some ⟨b4, 0, none⟩)]) rfl rfl) rfl rfl rfl ?_ | refine LOps.nil ?_ | refine andThen_normal ?_ | refine andThen_exit ?_ | refine andThen_ret ?_ | refine inBlock_normal ?_ | refine inBlock_ret ?_ | refine inBlock_here ?_ | refine inBlock_out rfl ?_ | refine LWp.seq ?_ | refine LWp.region ?_ | refine LWp.block ?_ | refine LWp.exit ?_ | refine LWp.ret ?_ | refine LWp.skip ?_ | refine LOps.valA ?_ | refine LOps.outA ?_ | refine LOps.whenA ?_ | refine LOps.pickA ?_ | refine LOps.storeA ?_)
  cases hq : l.findIdx? (isEv 3 a) with
  | none =>
    rw [show idxS (isEv 3 a) l = -1 by simp [idxS, hq]] at hi
    refine LOps.do (LDo.callF hi (by rw [hP]; exact Try.func34)) rfl rfl rfl ?_
    rintro _ _ ⟨rfl, rfl⟩
    repeat (first | refine LOps.nil ?_ | refine andThen_normal ?_ | refine andThen_exit ?_ | refine andThen_ret ?_ | refine inBlock_normal ?_ | refine inBlock_ret ?_ | refine inBlock_here ?_ | refine inBlock_out rfl ?_ | refine LWp.seq ?_ | refine LWp.region ?_ | refine LWp.block ?_ | refine LWp.exit ?_ | refine LWp.ret ?_ | refine LWp.skip ?_ | refine LOps.valA ?_ | refine LOps.outA ?_ | refine LOps.whenA ?_ | refine LOps.pickA ?_ | refine LOps.storeA ?_)
    refine ⟨_, LRes.one rfl, ?_, le1⟩
    simp only [aheadS, hq]; rfl
  | some i =>
    obtain ⟨hlt, h2⟩ := find_of_idx hq
    have hc := contains_L hP 37 Try.f37 (by rw [hP]; exact Try.func37) rfl (by decide) [.pointer (some ⟨b5, 0, none⟩)] rfl (isEv 1 b) (l.drop i) (by rw [List.length_drop]; omega) S1 (head2_P hP b5 b S1 k5)
    rw [show idxS (isEv 3 a) l = (i : Int) by simp [idxS, hq]] at hi
    have hli : i ≤ l.length := Nat.le_of_lt hlt
    refine LOps.do (LDo.callF hi (by rw [hP]; exact Try.func34)) rfl rfl rfl ?_
    rintro _ _ ⟨rfl, rfl⟩
    repeat (first | refine LOps.val (r := .one (bv true)) (LVal.to (LVal.binOp (op := .geq) hD rfl rfl rfl rfl) (by simp)) rfl rfl rfl ?_ | refine LOps.valG (LVal.dropMap hD rfl rfl rfl rfl rfl rfl hli rfl (fun _ _ => rfl)) rfl rfl rfl ?_ | refine LOps.valG (LVal.makeFunc (vs := [.pointer (some ⟨b5, 0, none⟩)]) rfl rfl) rfl rfl rfl ?_ | refine LOps.valG (LVal.move1 rfl rfl) rfl rfl rfl ?_ | refine LOps.nil ?_ | refine andThen_normal ?_ | refine andThen_exit ?_ | refine andThen_ret ?_ | refine inBlock_normal ?_ | refine inBlock_ret ?_ | refine inBlock_here ?_ | refine inBlock_out rfl ?_ | refine LWp.seq ?_ | refine LWp.region ?_ | refine LWp.block ?_ | refine LWp.exit ?_ | refine LWp.ret ?_ | refine LWp.skip ?_ | refine LOps.valA ?_ | refine LOps.outA ?_ | refine LOps.whenA ?_ | refine LOps.pickA ?_ | refine LOps.storeA ?_)
    refine LOps.do (LDo.callF hc (by rw [hP]; exact Try.func36)) rfl rfl rfl ?_
    rintro _ _ ⟨rfl, rfl⟩
    repeat (first | refine LOps.nil ?_ | refine andThen_normal ?_ | refine andThen_exit ?_ | refine andThen_ret ?_ | refine inBlock_normal ?_ | refine inBlock_ret ?_ | refine inBlock_here ?_ | refine inBlock_out rfl ?_ | refine LWp.seq ?_ | refine LWp.region ?_ | refine LWp.block ?_ | refine LWp.exit ?_ | refine LWp.ret ?_ | refine LWp.skip ?_ | refine LOps.valA ?_ | refine LOps.outA ?_ | refine LOps.whenA ?_ | refine LOps.pickA ?_ | refine LOps.storeA ?_)
    refine ⟨_, LRes.one rfl, ?_, le1⟩
    simp only [aheadS, hq]; rfl

set_option maxHeartbeats 4000000 in
theorem refAhead_F {G : Ctx} (hP : G.P = Try.prog) (l : List Ev) (hl : l.length ≤ 1000000) (a b : Int) : LFun G 28 [.one (.sl .sh (l.map evL)), .one (iv a), .one (iv b)] (.one (bv (aheadS l a b))) := LFun.of fun S => by
  have hD : TabOK G.P D := by rw [hP]; exact hD0
  refine LCalls.enter (fn := Try.f28) (by rw [hP]; exact Try.func28) rfl rfl ?_
  repeat (first | refine LOps.nil ?_ | refine andThen_normal ?_ | refine andThen_exit ?_ | refine andThen_ret ?_ | refine inBlock_normal ?_ | refine inBlock_ret ?_ | refine inBlock_here ?_ | refine inBlock_out rfl ?_ | refine LWp.seq ?_ | refine LWp.region ?_ | refine LWp.block ?_ | refine LWp.exit ?_ | refine LWp.ret ?_ | refine LWp.skip ?_ | refine LOps.valA ?_ | refine LOps.outA ?_ | refine LOps.whenA ?_ | refine LOps.pickA ?_ | refine LOps.storeA ?_)
  refine LWp.loop (fun k T S' => S' = S ∧ ∃ T' j, j ≤ l.length ∧ k = l.length - j ∧ (∀ (i : Nat) (hi : i < l.length), i < j → isEv 3 a l[i] = true → ∀ e ∈ l.drop (i + 1), isEv 1 b e = false) ∧ T = over T' [(0, .one (.sl .sh (l.map evL))), (1, .one (iv a)), (2, .one (iv b)), (7, .one (iv j))]) l.length ?_ ?_
  · exact ⟨rfl, _, 0, by omega, by omega, by omega, holds.over ⟨rfl, rfl, rfl, rfl, trivial⟩⟩
  rintro k T S' ⟨rfl, T', j, hj, rfl, hno, rfl⟩
  repeat (first | refine LOps.nil ?_ | refine andThen_normal ?_ | refine andThen_exit ?_ | refine andThen_ret ?_ | refine inBlock_normal ?_ | refine inBlock_ret ?_ | refine inBlock_here ?_ | refine inBlock_out rfl ?_ | refine LWp.seq ?_ | refine LWp.region ?_ | refine LWp.block ?_ | refine LWp.exit ?_ | refine LWp.ret ?_ | refine LWp.skip ?_ | refine LOps.valA ?_ | refine LOps.outA ?_ | refine LOps.whenA ?_ | refine LOps.pickA ?_ | refine LOps.storeA ?_)
  refine LWp.cond rfl (fun h => ?_) (fun h => ?_)
  · have hlt : j < l.length := by simpa using h
    repeat (first | refine LOps.nil ?_ | refine andThen_normal ?_ | refine andThen_exit ?_ | refine andThen_ret ?_ | refine inBlock_normal ?_ | refine inBlock_ret ?_ | refine inBlock_here ?_ | refine inBlock_out rfl ?_ | refine LWp.seq ?_ | refine LWp.region ?_ | refine LWp.block ?_ | refine LWp.exit ?_ | refine LWp.ret ?_ | refine LWp.skip ?_ | refine LOps.valA ?_ | refine LOps.outA ?_ | refine LOps.whenA ?_ | refine LOps.pickA ?_ | refine LOps.storeA ?_)
    refine LWp.cond rfl (fun h => ?_) (fun h => ?_)
    · have h3 : isEv 3 a l[j] = false := by
        have h : (l[j].kind != 3 || l[j].id != a) = true := h
        cases hq : isEv 3 a l[j] with
        | false => rfl
        | true => obtain ⟨e1, e2⟩ := (isEv_iff _ _ _).1 hq; rw [e1, e2] at h; simp at h
      repeat (first | refine LOps.nil ?_ | refine andThen_normal ?_ | refine andThen_exit ?_ | refine andThen_ret ?_ | refine inBlock_normal ?_ | refine inBlock_ret ?_ | refine inBlock_here ?_ | refine inBlock_out rfl ?_ | refine LWp.seq ?_ | refine LWp.region ?_ | refine LWp.block ?_ | refine LWp.exit ?_ | refine LWp.ret ?_ | refine LWp.skip ?_ | refine LOps.valA ?_ | refine LOps.outA ?_ | refine LOps.whenA ?_ | refine LOps.pickA ?_ | refine LOps.storeA ?_)
      refine ⟨l.length - (j + 1), by omega, rfl, _, j + 1, by omega, rfl, ?_, holds.over ⟨rfl, rfl, rfl, rfl, trivial⟩⟩
      intro i hi hij hp
      rcases Nat.lt_or_ge i j with hl' | hge
      · exact hno i hi hl' hp
      · obtain rfl : i = j := by omega
        rw [h3] at hp; cases hp
    have h3 : isEv 3 a l[j] = true := by
      have h : (l[j].kind != 3 || l[j].id != a) = false := h
      simp at h
      exact (isEv_iff _ _ _).2 h
    repeat (first | refine LOps.nil ?_ | refine andThen_normal ?_ | refine andThen_exit ?_ | refine andThen_ret ?_ | refine inBlock_normal ?_ | refine inBlock_ret ?_ | refine inBlock_here ?_ | refine inBlock_out rfl ?_ | refine LWp.seq ?_ | refine LWp.region ?_ | refine LWp.block ?_ | refine LWp.exit ?_ | refine LWp.ret ?_ | refine LWp.skip ?_ | refine LOps.valA ?_ | refine LOps.outA ?_ | refine LOps.whenA ?_ | refine LOps.pickA ?_ | refine LOps.storeA ?_)
    refine LWp.loop (fun k T S2 => S2 = S' ∧ ∃ T' q, j + 1 ≤ q ∧ q ≤ l.length ∧ k = l.length - q ∧ (∀ (i : Nat) (hi : i < l.length), j < i → i < q → isEv 1 b l[i] = false) ∧ T = over T' [(0, .one (.sl .sh (l.map evL))), (1, .one (iv a)), (2, .one (iv b)), (7, .one (iv j)), (8, .one (iv (q : Nat)))]) (l.length - (j + 1)) ?_ ?_
    · exact ⟨rfl, _, j + 1, by omega, by omega, rfl, by omega, holds.over ⟨rfl, rfl, rfl, rfl, rfl, trivial⟩⟩
    rintro k T S2 ⟨rfl, T', q, hq1, hq, rfl, hnq, rfl⟩
    repeat (first | refine LOps.nil ?_ | refine andThen_normal ?_ | refine andThen_exit ?_ | refine andThen_ret ?_ | refine inBlock_normal ?_ | refine inBlock_ret ?_ | refine inBlock_here ?_ | refine inBlock_out rfl ?_ | refine LWp.seq ?_ | refine LWp.region ?_ | refine LWp.block ?_ | refine LWp.exit ?_ | refine LWp.ret ?_ | refine LWp.skip ?_ | refine LOps.valA ?_ | refine LOps.outA ?_ | refine LOps.whenA ?_ | refine LOps.pickA ?_ | refine LOps.storeA ?_)
    refine LWp.cond rfl (fun h => ?_) (fun h => ?_)
    · have hltq : q < l.length := by simpa using h
      repeat (first | refine LOps.nil ?_ | refine andThen_normal ?_ | refine andThen_exit ?_ | refine andThen_ret ?_ | refine inBlock_normal ?_ | refine inBlock_ret ?_ | refine inBlock_here ?_ | refine inBlock_out rfl ?_ | refine LWp.seq ?_ | refine LWp.region ?_ | refine LWp.block ?_ | refine LWp.exit ?_ | refine LWp.ret ?_ | refine LWp.skip ?_ | refine LOps.valA ?_ | refine LOps.outA ?_ | refine LOps.whenA ?_ | refine LOps.pickA ?_ | refine LOps.storeA ?_)
      refine LWp.cond rfl (fun h => ?_) (fun h => ?_)
      · have h1 : isEv 1 b l[q] = true := h
        repeat (first | refine LOps.nil ?_ | refine andThen_normal ?_ | refine andThen_exit ?_ | refine andThen_ret ?_ | refine inBlock_normal ?_ | refine inBlock_ret ?_ | refine inBlock_here ?_ | refine inBlock_out rfl ?_ | refine LWp.seq ?_ | refine LWp.region ?_ | refine LWp.block ?_ | refine LWp.exit ?_ | refine LWp.ret ?_ | refine LWp.skip ?_ | refine LOps.valA ?_ | refine LOps.outA ?_ | refine LOps.whenA ?_ | refine LOps.pickA ?_ | refine LOps.storeA ?_)
        refine ⟨_, LRes.one rfl, ?_, .refl _⟩
        have : aheadS l a b = true := ahead_iff.2 ⟨j, hlt, h3, l[q], by rw [List.mem_drop_iff_getElem]; exact ⟨q - (j + 1), by omega, by congr 1; omega⟩, h1⟩
        rw [this]; rfl
      · have h1 : isEv 1 b l[q] = false := h
        repeat (first | refine LOps.nil ?_ | refine andThen_normal ?_ | refine andThen_exit ?_ | refine andThen_ret ?_ | refine inBlock_normal ?_ | refine inBlock_ret ?_ | refine inBlock_here ?_ | refine inBlock_out rfl ?_ | refine LWp.seq ?_ | refine LWp.region ?_ | refine LWp.block ?_ | refine LWp.exit ?_ | refine LWp.ret ?_ | refine LWp.skip ?_ | refine LOps.valA ?_ | refine LOps.outA ?_ | refine LOps.whenA ?_ | refine LOps.pickA ?_ | refine LOps.storeA ?_)
        refine ⟨l.length - (q + 1), by omega, rfl, _, q + 1, by omega, by omega, rfl, ?_, holds.over ⟨rfl, rfl, rfl, rfl, rfl, trivial⟩⟩
        intro i hi hji hiq
        rcases Nat.lt_or_ge i q with hl' | hge
        · exact hnq i hi hji hl'
        · obtain rfl : i = q := by omega
          exact h1
    · have hgeq : l.length ≤ q := by simpa using h
      repeat (first | refine LOps.nil ?_ | refine andThen_normal ?_ | refine andThen_exit ?_ | refine andThen_ret ?_ | refine inBlock_normal ?_ | refine inBlock_ret ?_ | refine inBlock_here ?_ | refine inBlock_out rfl ?_ | refine LWp.seq ?_ | refine LWp.region ?_ | refine LWp.block ?_ | refine LWp.exit ?_ | refine LWp.ret ?_ | refine LWp.skip ?_ | refine LOps.valA ?_ | refine LOps.outA ?_ | refine LOps.whenA ?_ | refine LOps.pickA ?_ | refine LOps.storeA ?_)
      refine ⟨l.length - (j + 1), by omega, rfl, _, j + 1, by omega, rfl, ?_, holds.over ⟨rfl, rfl, rfl, rfl, trivial⟩⟩
      intro i hi hij hp e he
      rcases Nat.lt_or_ge i j with hl' | hge
      · exact hno i hi hl' hp e he
      · obtain rfl : i = j := by omega
        rw [List.mem_drop_iff_getElem] at he
        obtain ⟨x, hx, he⟩ := he
        rw [← he]
        exact hnq (i + 1 + x) (by omega) (by omega) (by omega)
  · have hge : l.length ≤ j := by simpa using h
    repeat (first | refine LOps.nil ?_ | refine andThen_normal ?_ | refine andThen_exit ?_ | refine andThen_ret ?_ | refine inBlock_normal ?_ | refine inBlock_ret ?_ | refine inBlock_here ?_ | refine inBlock_out rfl ?_ | refine LWp.seq ?_ | refine LWp.region ?_ | refine LWp.block ?_ | refine LWp.exit ?_ | refine LWp.ret ?_ | refine LWp.skip ?_ | refine LOps.valA ?_ | refine LOps.outA ?_ | refine LOps.whenA ?_ | refine LOps.pickA ?_ | refine LOps.storeA ?_)
    refine ⟨_, LRes.one rfl, ?_, .refl _⟩
    have : aheadS l a b = false := by
      cases hq : aheadS l a b with
      | false => rfl
      | true =>
        obtain ⟨i, hi, hp, e, he, hpe⟩ := ahead_iff.1 hq
        rw [hno i hi (by omega) hp e he] at hpe; cases hpe
    rw [this]; rfl
end Go.Proofs.Ytmdfjojohfhcgaa.LF
