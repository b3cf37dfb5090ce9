/- Leaves: At, Find; a leaf's copy of the document's type. -/
import Derived.Test.YtgkjhlmfgaaddaaLMh
import Derived.Test.YtgkjhlmfgaaddaaLGc
set_option linter.unusedVariables false
set_option linter.unusedSimpArgs false
namespace Go.Proofs.Ytgkjhlmfgaaddaa.LF
open Go.RowKit
set_option linter.unusedVariables false

/-- What stands at a rank. -/
def atL (l : LeafV) (i : Int) : SlotV × Bool := if 0 ≤ i ∧ i < ((l.p % 16 : Nat) : Int) ∧ rightL l = true then (l.rank i.toNat, true) else (noSlot, false)
theorem rightL_rt {l : LeafV} (h : rightL l = true) : rt (slots l.p) = true := by
  unfold rightL headR at h
  simp only [Bool.and_eq_true] at h
  exact h.1.1
theorem rt_le {p : Nat} (h : rt (slots p) = true) : p % 16 ≤ 15 := by
  have := Nat.mod_lt p (show 0 < 16 by omega); omega

theorem atRes {G : Ctx} (hP : G.P = Try.prog) {n : Nat} {fn : Func} {T : Nat → TV} {S : LS} {a t : Tmp} {b : Nat} {cs : List LV} {y : TV} (hf : fn.results = #[.cell a 28, .tmp t]) (ha : T a = ptr b) (hb : S.box b = some cs) (hl : cs.length = 7) (hy : T t = y) :
    LRes G n fn T S (.tup [.agg cs, y]) := by
  subst hy
  exact LRes.many (vs := [.cell a 28, .tmp t]) hf rfl (.cons (.cell ha hb (hP ▸ tok28) (readT_agg rfl (by rw [List.drop_zero, hl]; exact Nat.le_refl _) (by rw [List.drop_zero, List.take_of_length_le (by rw [hl]; exact Nat.le_refl _)]))) (.cons (.tmp _) .nil))

set_option maxHeartbeats 2000000 in
theorem at_L {G : Ctx} (hP : G.P = Try.prog) (l : LeafV) (hl : l.ok) (i : Int) : LFun G 17 [.agg (leafL l), .one (iv i)] (.tup [.agg (slotL (atL l i).1), .one (bv (atL l i).2)]) := LFun.of fun S => by
  have hD : TabOK G.P D := by rw [hP]; exact hD0
  have h1 := len_L hP l hl.p
  have h2 := right_L hP l hl
  refine LCalls.enter (fn := Try.f17) (by rw [hP]; exact Try.func17) rfl rfl ?_
  repeat (first | refine LOps.nil ?_ | refine andThen_normal ?_ | refine andThen_exit ?_ | refine andThen_ret ?_ | refine inBlock_normal ?_ | refine inBlock_ret ?_ | refine inBlock_here ?_ | refine inBlock_out rfl ?_ | refine LWp.seq ?_ | refine LWp.region ?_ | refine LWp.block ?_ | refine LWp.exit ?_ | refine LWp.ret ?_ | refine LWp.skip ?_ | refine LOps.valA ?_ | refine LOps.outA ?_ | refine LOps.whenA ?_ | refine LOps.pickA ?_ | refine LOps.storeA ?_)
  have hle := LS.le.refl S
  refine LOps.do (LDo.box rfl rfl) rfl rfl rfl ?_
  rintro _ _ ⟨b2, hb2, rfl, rfl⟩
  have s2 := hle.none hb2
  refine LOps.gen (fun S' => S.le S' ∧ S'.box b2 = some (leafL l)) ⟨hle.newBox hb2 _, box_new _ _ _⟩ ?_
  clear hle hb2 
  rintro S2 ⟨hle, k2⟩
  repeat (first | refine LOps.nil ?_ | refine andThen_normal ?_ | refine andThen_exit ?_ | refine andThen_ret ?_ | refine inBlock_normal ?_ | refine inBlock_ret ?_ | refine inBlock_here ?_ | refine inBlock_out rfl ?_ | refine LWp.seq ?_ | refine LWp.region ?_ | refine LWp.block ?_ | refine LWp.exit ?_ | refine LWp.ret ?_ | refine LWp.skip ?_ | refine LOps.valA ?_ | refine LOps.outA ?_ | refine LOps.whenA ?_ | refine LOps.pickA ?_ | refine LOps.storeA ?_)
  skip
  refine LOps.do (LDo.alloc hD rfl rfl rfl) rfl rfl rfl ?_
  rintro _ _ ⟨b4, hb4, rfl, rfl⟩
  have n2_4 := fresh_ne hb4 k2
  have m4_2 := n2_4.symm
  have s4 := hle.none hb4
  refine LOps.gen (fun S' => S.le S' ∧ S'.box b2 = some (leafL l) ∧ S'.box b4 = some (slotL noSlot)) ⟨hle.newBox hb4 _, (box_new_ne _ _ n2_4).trans k2, box_new _ _ _⟩ ?_
  clear hle hb4 k2
  rintro S4 ⟨hle, k2, k4⟩
  by_cases hi : 0 ≤ i ∧ i < ((l.p % 16 : Nat) : Int)
  · cases hr : rightL l with
    | true =>
      rw [hr] at h2
      have e : atL l i = (l.rank i.toNat, true) := by unfold atL; rw [if_pos ⟨hi.1, hi.2, hr⟩]
      obtain ⟨k, rfl⟩ : ∃ k : Nat, i = k := ⟨i.toNat, by omega⟩
      have hrt := rightL_rt hr
      have hk : k < 15 := by have := rt_le hrt; omega
      have hn := nib_low hrt hk
      have hat : LFun G 47 [.one (.v (.int .u64 l.p)), .one (iv (k : Nat))] (.one (iv (nib l.p k : Nat))) := by
        have := at_F hP l.p (k : Nat) hl.p
        unfold atR at this
        rwa [if_pos (by omega), Int.toNat_natCast] at this
      rw [e, Int.toNat_natCast]
      repeat (first | refine LOps.valH (LVal.call rfl rfl (by rw [hP]; exact Try.func15) rfl (by decide) (h1)) ?_ | refine LOps.valH (LVal.call rfl rfl (by rw [hP]; exact Try.func12) rfl (by decide) (h2)) ?_ | refine LOps.valH (LVal.call rfl rfl (by rw [hP]; exact Try.func47) rfl (by decide) (hat)) ?_ | refine LOps.valH (LVal.load hD rfl rfl k2 rfl (rdLeaf l)) ?_ | refine LWp.condF rfl ?_ | refine LOps.valH (LVal.indexP hD rfl rfl rfl rfl rfl rfl hn) ?_ | refine LOps.valH (LVal.load hD rfl rfl k2 rfl (rdSlot l hn)) ?_ | refine LOps.valH (LVal.to (LVal.binOp hD rfl rfl rfl rfl) (r' := .one (.v (.bool true))) (congrArg (fun b => TV.one (.v (.bool b))) (by first | exact decide_eq_true (by omega) | (rw [beq_iff_eq]; omega) | (rw [bne_iff_ne]; omega)))) ?_ | refine LOps.valH (LVal.to (LVal.binOp hD rfl rfl rfl rfl) (r' := .one (.v (.bool false))) (congrArg (fun b => TV.one (.v (.bool b))) (by first | exact decide_eq_false (by omega) | (rw [beq_eq_false_iff_ne]; omega) | (rw [bne_eq_false_iff_eq]; omega)))) ?_ | refine LOps.valW ?_ | refine LOps.nil ?_ | refine andThen_normal ?_ | refine andThen_exit ?_ | refine andThen_ret ?_ | refine inBlock_normal ?_ | refine inBlock_ret ?_ | refine inBlock_here ?_ | refine inBlock_out rfl ?_ | refine LWp.seq ?_ | refine LWp.region ?_ | refine LWp.block ?_ | refine LWp.exit ?_ | refine LWp.ret ?_ | refine LWp.skip ?_ | refine LOps.val (LVal.call rfl rfl (by rw [hP]; exact Try.func15) rfl (by decide) (h1)) rfl rfl rfl ?_ | refine LOps.val (LVal.call rfl rfl (by rw [hP]; exact Try.func12) rfl (by decide) (h2)) rfl rfl rfl ?_ | refine LOps.val (LVal.call rfl rfl (by rw [hP]; exact Try.func47) rfl (by decide) (hat)) rfl rfl rfl ?_ | refine LOps.whenC (LVal.call rfl rfl (by rw [hP]; exact Try.func15) rfl (by decide) (h1)) ?_ | refine LOps.whenC (LVal.call rfl rfl (by rw [hP]; exact Try.func12) rfl (by decide) (h2)) ?_ | refine LOps.whenC (LVal.call rfl rfl (by rw [hP]; exact Try.func47) rfl (by decide) (hat)) ?_ | refine LOps.valA ?_ | refine LOps.outA ?_ | refine LOps.whenA ?_ | refine LOps.pickA ?_ | refine LOps.storeA ?_)
      exact ⟨_, atRes hP rfl rfl (box_set _ _ _) rfl rfl, rfl, hle.setBox s4 _⟩
    | false =>
      rw [hr] at h2
      have e : atL l i = (noSlot, false) := by unfold atL; rw [if_neg (fun h => by rw [hr] at h; exact absurd h.2.2 (by decide))]
      rw [e]
      repeat (first | refine LOps.valH (LVal.call rfl rfl (by rw [hP]; exact Try.func15) rfl (by decide) (h1)) ?_ | refine LOps.valH (LVal.call rfl rfl (by rw [hP]; exact Try.func12) rfl (by decide) (h2)) ?_ | refine LOps.valH (LVal.load hD rfl rfl k2 rfl (rdLeaf l)) ?_ | refine LWp.condT rfl ?_ | refine LOps.valH (LVal.to (LVal.binOp hD rfl rfl rfl rfl) (r' := .one (.v (.bool true))) (congrArg (fun b => TV.one (.v (.bool b))) (by first | exact decide_eq_true (by omega) | (rw [beq_iff_eq]; omega) | (rw [bne_iff_ne]; omega)))) ?_ | refine LOps.valH (LVal.to (LVal.binOp hD rfl rfl rfl rfl) (r' := .one (.v (.bool false))) (congrArg (fun b => TV.one (.v (.bool b))) (by first | exact decide_eq_false (by omega) | (rw [beq_eq_false_iff_ne]; omega) | (rw [bne_eq_false_iff_eq]; omega)))) ?_ | refine LOps.valW ?_ | refine LOps.nil ?_ | refine andThen_normal ?_ | refine andThen_exit ?_ | refine andThen_ret ?_ | refine inBlock_normal ?_ | refine inBlock_ret ?_ | refine inBlock_here ?_ | refine inBlock_out rfl ?_ | refine LWp.seq ?_ | refine LWp.region ?_ | refine LWp.block ?_ | refine LWp.exit ?_ | refine LWp.ret ?_ | refine LWp.skip ?_ | refine LOps.val (LVal.call rfl rfl (by rw [hP]; exact Try.func15) rfl (by decide) (h1)) rfl rfl rfl ?_ | refine LOps.val (LVal.call rfl rfl (by rw [hP]; exact Try.func12) rfl (by decide) (h2)) rfl rfl rfl ?_ | refine LOps.whenC (LVal.call rfl rfl (by rw [hP]; exact Try.func15) rfl (by decide) (h1)) ?_ | refine LOps.whenC (LVal.call rfl rfl (by rw [hP]; exact Try.func12) rfl (by decide) (h2)) ?_ | refine LOps.valA ?_ | refine LOps.outA ?_ | refine LOps.whenA ?_ | refine LOps.pickA ?_ | refine LOps.storeA ?_)
      exact ⟨_, atRes hP rfl rfl (box_set _ _ _) rfl rfl, rfl, hle.setBox s4 _⟩
  · have e : atL l i = (noSlot, false) := by unfold atL; rw [if_neg (fun h => hi ⟨h.1, h.2.1⟩)]
    rw [e]
    by_cases h0 : i < 0
    · repeat (first | refine LOps.valH (LVal.load hD rfl rfl k2 rfl (rdLeaf l)) ?_ | refine LWp.condT rfl ?_ | refine LOps.valH (LVal.to (LVal.binOp hD rfl rfl rfl rfl) (r' := .one (.v (.bool true))) (congrArg (fun b => TV.one (.v (.bool b))) (by first | exact decide_eq_true (by omega) | (rw [beq_iff_eq]; omega) | (rw [bne_iff_ne]; omega)))) ?_ | refine LOps.valH (LVal.to (LVal.binOp hD rfl rfl rfl rfl) (r' := .one (.v (.bool false))) (congrArg (fun b => TV.one (.v (.bool b))) (by first | exact decide_eq_false (by omega) | (rw [beq_eq_false_iff_ne]; omega) | (rw [bne_eq_false_iff_eq]; omega)))) ?_ | refine LOps.valW ?_ | refine LOps.nil ?_ | refine andThen_normal ?_ | refine andThen_exit ?_ | refine andThen_ret ?_ | refine inBlock_normal ?_ | refine inBlock_ret ?_ | refine inBlock_here ?_ | refine inBlock_out rfl ?_ | refine LWp.seq ?_ | refine LWp.region ?_ | refine LWp.block ?_ | refine LWp.exit ?_ | refine LWp.ret ?_ | refine LWp.skip ?_ | refine LOps.valA ?_ | refine LOps.outA ?_ | refine LOps.whenA ?_ | refine LOps.pickA ?_ | refine LOps.storeA ?_)
      exact ⟨_, atRes hP rfl rfl (box_set _ _ _) rfl rfl, rfl, hle.setBox s4 _⟩
    · repeat (first | refine LOps.valH (LVal.call rfl rfl (by rw [hP]; exact Try.func15) rfl (by decide) (h1)) ?_ | refine LOps.valH (LVal.load hD rfl rfl k2 rfl (rdLeaf l)) ?_ | refine LWp.condT rfl ?_ | refine LOps.valH (LVal.to (LVal.binOp hD rfl rfl rfl rfl) (r' := .one (.v (.bool true))) (congrArg (fun b => TV.one (.v (.bool b))) (by first | exact decide_eq_true (by omega) | (rw [beq_iff_eq]; omega) | (rw [bne_iff_ne]; omega)))) ?_ | refine LOps.valH (LVal.to (LVal.binOp hD rfl rfl rfl rfl) (r' := .one (.v (.bool false))) (congrArg (fun b => TV.one (.v (.bool b))) (by first | exact decide_eq_false (by omega) | (rw [beq_eq_false_iff_ne]; omega) | (rw [bne_eq_false_iff_eq]; omega)))) ?_ | refine LOps.valW ?_ | refine LOps.nil ?_ | refine andThen_normal ?_ | refine andThen_exit ?_ | refine andThen_ret ?_ | refine inBlock_normal ?_ | refine inBlock_ret ?_ | refine inBlock_here ?_ | refine inBlock_out rfl ?_ | refine LWp.seq ?_ | refine LWp.region ?_ | refine LWp.block ?_ | refine LWp.exit ?_ | refine LWp.ret ?_ | refine LWp.skip ?_ | refine LOps.val (LVal.call rfl rfl (by rw [hP]; exact Try.func15) rfl (by decide) (h1)) rfl rfl rfl ?_ | refine LOps.whenC (LVal.call rfl rfl (by rw [hP]; exact Try.func15) rfl (by decide) (h1)) ?_ | refine LOps.valA ?_ | refine LOps.outA ?_ | refine LOps.whenA ?_ | refine LOps.pickA ?_ | refine LOps.storeA ?_)
      exact ⟨_, atRes hP rfl rfl (box_set _ _ _) rfl rfl, rfl, hle.setBox s4 _⟩

def eqM (a b : MarkV) : Bool := decide (a.s = b.s) && decide (a.c = b.c)
/-- How many marks are less; whether it is there. -/
def lessN (l : LeafV) (m : MarkV) : Nat := ((List.range (l.p % 16)).takeWhile fun k => lessM (l.rank k).m m).length
def findL (l : LeafV) (m : MarkV) : Nat × Bool := if rightL l then (lessN l m, decide (lessN l m < l.p % 16) && eqM (l.rank (lessN l m)).m m) else (0, false)
theorem lessN_le (l : LeafV) (m : MarkV) : lessN l m ≤ l.p % 16 := by
  unfold lessN
  have := (List.takeWhile_prefix (fun k => lessM (l.rank k).m m) (l := List.range (l.p % 16))).length_le
  rwa [List.length_range] at this
theorem takeWhile_range (f : Nat → Bool) (n k : Nat) (hk : k ≤ n) (h1 : ∀ j, j < k → f j = true) (h2 : k < n → f k = false) : ((List.range n).takeWhile f).length = k := by
  induction k generalizing n f with
  | zero =>
    cases n with
    | zero => rfl
    | succ n => rw [List.range_succ_eq_map, List.takeWhile_cons, h2 (by omega)]; rfl
  | succ k ih =>
    cases n with
    | zero => omega
    | succ n =>
      rw [List.range_succ_eq_map, List.takeWhile_cons, h1 0 (by omega), if_pos rfl, List.length_cons, List.takeWhile_map, List.length_map]
      rw [ih (f ∘ Nat.succ) n (by omega) (fun j hj => h1 (j + 1) (by omega)) (fun h => h2 (by omega))]
theorem lessN_of (l : LeafV) (m : MarkV) {k : Nat} (hk : k ≤ l.p % 16) (h1 : ∀ j, j < k → lessM (l.rank j).m m = true) (h2 : k < l.p % 16 → lessM (l.rank k).m m = false) : lessN l m = k := takeWhile_range _ _ _ hk h1 h2

theorem leafEq {l l2 : LeafV} (hp : l.p = l2.p) (hs : ∀ k, k < 15 → l.slot k = l2.slot k) (hh : l.high = l2.high) (hb : l.bounded = l2.bounded) (h1 : l.ns = l2.ns) (h2 : l.ng = l2.ng) : leafL l = leafL l2 := by
  unfold leafL slotsL
  rw [hp, hh, hb, h1, h2, hs 0 (by omega), hs 1 (by omega), hs 2 (by omega), hs 3 (by omega), hs 4 (by omega), hs 5 (by omega), hs 6 (by omega), hs 7 (by omega), hs 8 (by omega), hs 9 (by omega), hs 10 (by omega), hs 11 (by omega), hs 12 (by omega), hs 13 (by omega), hs 14 (by omega)]
end Go.Proofs.Ytgkjhlmfgaaddaa.LF
