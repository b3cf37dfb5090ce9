/- Marks of keys that begin alike; the walk of the law 'MleafOrder'. -/
import Derived.Test.YtgkjhlmfgaaddaaLMn
import Derived.Test.YtgkjhlmfgaaddaaLMs
set_option linter.unusedVariables false
set_option linter.unusedSimpArgs false
namespace Go.Proofs.Ytgkjhlmfgaaddaa.LF
open Go.RowKit
open Go.Lib (compareBytes)
set_option linter.unusedVariables false

theorem slNum_pad (l : List UInt8) (k : Nat) (h : l.length ≤ k) : ∀ m, slNum l (k + m) = slNum l k * 256 ^ m
  | 0 => by simp
  | m + 1 => by
    rw [← Nat.add_assoc, slNum, slNum_pad l k h m, List.getElem?_eq_none (by omega)]
    simp [Nat.pow_succ, Nat.mul_assoc]
/-- The mark of a text's first slice. -/
def markB (a : List UInt8) : MarkV := ⟨(slNum a 8 : Nat), (min a.length 9 : Nat)⟩
theorem slNum_nil : ∀ k, slNum [] k = 0
  | 0 => rfl
  | k + 1 => by rw [slNum, slNum_nil k]; rfl
theorem ofM_join (X : ByteArray) (n : Nat) (a : List UInt8) (h1 : X.data.toList.drop (8 * n) = a) (h2 : 8 * n ≤ X.data.toList.length) : ofM X (n : Nat) = markB a := by
  have hl : a.length = X.data.toList.length - 8 * n := by rw [← h1, List.length_drop]
  unfold ofM sliceN sliceC markB
  generalize X.data.toList = L at *
  by_cases h : 8 * n < L.length
  · rw [if_pos (slIn_yes ⟨by omega, by omega⟩), if_pos (slIn_yes ⟨by omega, by omega⟩), Int.toNat_natCast, h1, hl]
  · have ha : a = [] := List.eq_nil_of_length_eq_zero (by omega)
    rw [slIn_no (.inr (by omega)), ha, slNum_nil]
    rfl
theorem markB_ok (a : List UInt8) : (markB a).ok := ⟨by show (0 : Int) ≤ (slNum a 8 : Nat); omega, by have := slNum_lt8 a; show ((slNum a 8 : Nat) : Int) < _; omega, by show (0 : Int) ≤ (min a.length 9 : Nat); omega, by show ((min a.length 9 : Nat) : Int) < _; omega⟩
theorem markB_right (a : List UInt8) : rightM (markB a) = true := by
  rw [rightM_nat (s := slNum a 8) (c := min a.length 9) rfl rfl, decide_eq_true_iff]
  refine ⟨by omega, ?_⟩
  by_cases h : a.length ≤ 8
  · have := slNum_pad a a.length (Nat.le_refl _) (8 - a.length)
    rw [show a.length + (8 - a.length) = 8 by omega] at this
    rw [this, show min a.length 9 = a.length by omega, Nat.mul_mod_left]
  · rw [show 8 - min a.length 9 = 0 by omega, Nat.pow_zero, Nat.mod_one]
theorem cmp_join (a b : List UInt8) : ∀ p : List UInt8, compareBytes (p ++ a) (p ++ b) = compareBytes a b
  | [] => rfl
  | x :: p => by
    rw [List.cons_append, List.cons_append, ← cmp_join a b p]
    have hn : ¬ x < x := UInt8.lt_irrefl x
    conv => lhs; unfold compareBytes
    rw [if_neg hn, if_neg hn]
theorem cmp_zero {a b : List UInt8} (h : compareBytes a b = 0) : a = b := by
  rw [cmp_eq_if] at h
  split at h
  · cases h
  · rename_i h1
    split at h
    · cases h
    · rename_i h2
      exact List.le_antisymm (List.not_lt.1 h2) (List.not_lt.1 h1)
theorem markB_same {a b : List UInt8} (h : markB a = markB b) : (markB a).c = 9 ∨ a = b := by
  unfold markB at h
  rw [MarkV.mk.injEq] at h
  have h1 : slNum a 8 = slNum b 8 := by omega
  have h2 : min a.length 9 = min b.length 9 := by omega
  by_cases h9 : min a.length 9 = 9
  · left; show ((min a.length 9 : Nat) : Int) = 9; omega
  · right
    refine cmp_zero ?_
    rw [cut_cmp]
    unfold cutWant
    rw [if_neg (by omega), if_neg (by omega), if_neg (by omega), if_neg (by omega), if_neg h9]
theorem markB_less {a b : List UInt8} (h : markB a ≠ markB b) : lessM (markB a) (markB b) = decide (compareBytes a b < 0) := by
  have hne : ¬ (slNum a 8 = slNum b 8 ∧ min a.length 9 = min b.length 9) := fun e => h (by unfold markB; rw [e.1, e.2])
  rw [Bool.eq_iff_iff, lessM_iff, decide_eq_true_iff, cut_cmp]
  unfold cutWant
  show ((slNum a 8 : Nat) : Int) < (slNum b 8 : Nat) ∨ ((slNum a 8 : Nat) : Int) = (slNum b 8 : Nat) ∧ ((min a.length 9 : Nat) : Int) < (min b.length 9 : Nat) ↔ _
  generalize slNum a 8 = n at *
  generalize slNum b 8 = m at *
  generalize min a.length 9 = p at *
  generalize min b.length 9 = q at *
  generalize compareBytes (a.drop 8) (b.drop 8) = r
  split
  · constructor
    · intro _; decide
    · intro _; omega
  · split
    · constructor
      · intro _; omega
      · intro h; cases h
    · split
      · constructor
        · intro _; decide
        · intro _; omega
      · split
        · constructor
          · intro _; omega
          · intro h; cases h
        · exfalso; omega

theorem eqM_cells (a b : MarkV) : ((a.s == b.s) && ((a.c == b.c) && true)) = eqM a b := by rw [Bool.and_true]; rfl
theorem eqM_no {a b : MarkV} (h : a ≠ b) : eqM a b = false := by
  cases e : eqM a b with
  | false => rfl
  | true => exact absurd ((eqM_iff a b).1 e) h
/-- What two keys that begin alike are to their marks. -/
structure Alike (X Y : ByteArray) (n : Nat) (p q : MarkV) : Prop where
  px : ofM X (n : Nat) = p
  py : ofM Y (n : Nat) = q
  op : p.ok
  oq : q.ok
  rp : rightM p = true
  rq : rightM q = true
  same : p = q → p.c = 9 ∨ X = Y
  less : p ≠ q → lessM p q = decide (cmpS X Y < 0)
theorem alike_of {pre a b : ByteArray} {n : Nat} (h : pre.size = 8 * n) : Alike (pre ++ a) (pre ++ b) n (markB a.data.toList) (markB b.data.toList) := by
  have hl : pre.data.toList.length = 8 * n := by rw [ba_len]; exact h
  have e : ∀ c : ByteArray, (pre ++ c).data.toList = pre.data.toList ++ c.data.toList := fun c => by simp
  have hc : cmpS (pre ++ a) (pre ++ b) = compareBytes a.data.toList b.data.toList := by unfold cmpS; rw [e, e, cmp_join]
  refine ⟨ofM_join _ _ _ (by rw [e, ← hl, List.drop_left]) (by rw [e, List.length_append]; omega), ofM_join _ _ _ (by rw [e, ← hl, List.drop_left]) (by rw [e, List.length_append]; omega), markB_ok _, markB_ok _, markB_right _, markB_right _, fun h => ?_, fun h => ?_⟩
  · rcases markB_same h with h | h
    · exact .inl h
    · exact .inr (by rw [ba_toList h])
  · rw [hc]; exact markB_less h

set_option maxHeartbeats 32000000 in
set_option maxRecDepth 20000 in
theorem order_L {G : Ctx} (hP : G.P = Try.prog) (beg a b : ByteArray) (i : Int) (hi : 0 ≤ i ∧ i < 256) (S : LS) : LCalls G 6 [.one (sv beg), .one (sv a), .one (sv b), .one (uv i)] (fun r _ => r = .one (bv true)) S := by
  have hD : TabOK G.P D := by rw [hP]; exact hD0
  have ea : EqTy G.P D 24 := by rw [hP]; exact eqMark
  have c1 := awake_F hP
  refine LCalls.enter (fn := Try.f6) (by rw [hP]; exact Try.func6) rfl rfl ?_
  repeat (first | refine LWp.condF rfl ?_ | refine LOps.nil ?_ | refine andThen_normal ?_ | refine andThen_exit ?_ | refine andThen_ret ?_ | refine inBlock_normal ?_ | refine inBlock_ret ?_ | refine inBlock_here ?_ | refine inBlock_out rfl ?_ | refine LWp.seq ?_ | refine LWp.region ?_ | refine LWp.block ?_ | refine LWp.exit ?_ | refine LWp.ret ?_ | refine LWp.skip ?_ | refine LOps.val (LVal.call rfl rfl (by rw [hP]; exact Try.func11) rfl (by decide) (c1)) rfl rfl rfl ?_ | refine LOps.whenC (LVal.call rfl rfl (by rw [hP]; exact Try.func11) rfl (by decide) (c1)) ?_ | refine LOps.valA ?_ | refine LOps.outA ?_ | refine LOps.whenA ?_ | refine LOps.pickA ?_ | refine LOps.storeA ?_)
  repeat (first | refine LOps.nil ?_ | refine andThen_normal ?_ | refine andThen_exit ?_ | refine andThen_ret ?_ | refine inBlock_normal ?_ | refine inBlock_ret ?_ | refine inBlock_here ?_ | refine inBlock_out rfl ?_ | refine LWp.seq ?_ | refine LWp.region ?_ | refine LWp.block ?_ | refine LWp.exit ?_ | refine LWp.ret ?_ | refine LWp.skip ?_ | refine LOps.valA ?_ | refine LOps.outA ?_ | refine LOps.whenA ?_ | refine LOps.pickA ?_ | refine LOps.storeA ?_)
  refine LWp.cond rfl (fun h => ?_) (fun h => ?_)
  · repeat (first | refine LOps.nil ?_ | refine andThen_normal ?_ | refine andThen_exit ?_ | refine andThen_ret ?_ | refine inBlock_normal ?_ | refine inBlock_ret ?_ | refine inBlock_here ?_ | refine inBlock_out rfl ?_ | refine LWp.seq ?_ | refine LWp.region ?_ | refine LWp.block ?_ | refine LWp.exit ?_ | refine LWp.ret ?_ | refine LWp.skip ?_ | refine LOps.valA ?_ | refine LOps.outA ?_ | refine LOps.whenA ?_ | refine LOps.pickA ?_ | refine LOps.storeA ?_)
    exact ⟨_, LRes.one rfl, rfl⟩
  have h : ((decide ((beg.size : Int) > 1000) || decide ((a.size : Int) > 1000)) || decide ((b.size : Int) > 1000)) = false := h
  simp only [Bool.or_eq_false_iff, decide_eq_false_iff_not] at h
  obtain ⟨⟨h1, h2⟩, h3⟩ := h
  obtain ⟨n, hn⟩ : ∃ n : Nat, (if (beg.size : Int) / 8 < i % 3 then (beg.size : Int) / 8 else i % 3) = (n : Int) := ⟨(if (beg.size : Int) / 8 < i % 3 then (beg.size : Int) / 8 else i % 3).toNat, by split <;> omega⟩
  have hnb : 8 * n ≤ beg.size := by split at hn <;> omega
  have hn2 : n ≤ 2 := by split at hn <;> omega
  obtain ⟨pre, hpre⟩ : ∃ pre, beg.extract (0 : Int).toNat (8 * (n : Int)).toNat = pre := ⟨_, rfl⟩
  have hps : pre.size = 8 * n := by rw [← hpre, ByteArray.size_extract]; omega
  obtain ⟨px, py, op, oq, rp, rq, same, less⟩ := alike_of (a := a) (b := b) hps
  have hxs : (pre ++ a).size ≤ 2000 := by rw [ByteArray.size_append]; omega
  have hys : (pre ++ b).size ≤ 2000 := by rw [ByteArray.size_append]; omega
  have c2 := of_M hP (pre ++ a) (n : Nat) (by omega)
  have c3 := of_M hP (pre ++ b) (n : Nat) (by omega)
  rw [px] at c2
  rw [py] at c3
  clear px py
  generalize markB a.data.toList = p at *
  generalize markB b.data.toList = q at *
  have c4 := right_M hP p op
  have c5 := right_M hP q oq
  rw [rp] at c4
  rw [rq] at c5
  have c6 := less_M hP p q
  have c7 := less_M hP q p
  have c8 := text_F hP p op
  have c9 := text_F hP q oq
  have c10 := cmp_F hP (textM p) (textM q)
  have c11 := cmp_F hP (pre ++ a) (pre ++ b)
  have h72 : (lessM p q != decide (cmpS (textM p) (textM q) < 0)) = false := by
    rw [bne_eq_false_iff_eq, ← textM_less op oq, Bool.eq_iff_iff, decide_eq_true_iff, cmpS_lt]
  have h102 : p ≠ q → (lessM p q == decide (cmpS (pre ++ a) (pre ++ b) < 0)) = true := fun h => by rw [less h]; exact beq_self_eq_true _
  clear less
  repeat (first | refine LOps.val (LVal.to (LVal.min rfl rfl rfl) (r' := .one (iv (n : Nat))) (congrArg (fun z => TV.one (iv z)) hn)) rfl rfl rfl ?_ | refine LOps.val (LVal.to (LVal.sliceStr hD rfl rfl rfl rfl rfl rfl (by omega) (by omega) (by omega)) (r' := .one (sv pre)) (congrArg (fun z => TV.one (sv z)) hpre)) rfl rfl rfl ?_ | refine LOps.val (LVal.addStr rfl rfl rfl (by omega)) rfl rfl rfl ?_ | refine LOps.nil ?_ | refine andThen_normal ?_ | refine andThen_exit ?_ | refine andThen_ret ?_ | refine inBlock_normal ?_ | refine inBlock_ret ?_ | refine inBlock_here ?_ | refine inBlock_out rfl ?_ | refine LWp.seq ?_ | refine LWp.region ?_ | refine LWp.block ?_ | refine LWp.exit ?_ | refine LWp.ret ?_ | refine LWp.skip ?_ | refine LOps.val (LVal.call rfl rfl (by rw [hP]; exact Try.func29) rfl (by decide) (c2)) rfl rfl rfl ?_ | refine LOps.whenC (LVal.call rfl rfl (by rw [hP]; exact Try.func29) rfl (by decide) (c2)) ?_ | refine LOps.valA ?_ | refine LOps.outA ?_ | refine LOps.whenA ?_ | refine LOps.pickA ?_ | refine LOps.storeA ?_)
  repeat (first | refine LOps.nil ?_ | refine andThen_normal ?_ | refine andThen_exit ?_ | refine andThen_ret ?_ | refine inBlock_normal ?_ | refine inBlock_ret ?_ | refine inBlock_here ?_ | refine inBlock_out rfl ?_ | refine LWp.seq ?_ | refine LWp.region ?_ | refine LWp.block ?_ | refine LWp.exit ?_ | refine LWp.ret ?_ | refine LWp.skip ?_ | refine LOps.val (LVal.call rfl rfl (by rw [hP]; exact Try.func29) rfl (by decide) (c2)) rfl rfl rfl ?_ | refine LOps.whenC (LVal.call rfl rfl (by rw [hP]; exact Try.func29) rfl (by decide) (c2)) ?_ | refine LOps.valA ?_ | refine LOps.outA ?_ | refine LOps.whenA ?_ | refine LOps.pickA ?_)
  have hle := LS.le.refl S
  refine LOps.do (LDo.alloc hD rfl rfl rfl) rfl rfl rfl ?_
  rintro _ _ ⟨b12, hb12, rfl, rfl⟩
  have s12 := hle.none hb12
  refine LOps.gen (fun S' => S.le S' ∧ S'.box b12 = some (markL noMark)) ⟨hle.newBox hb12 _, box_new _ _ _⟩ ?_
  clear hle hb12 
  rintro S12 ⟨hle, k12⟩
  refine LOps.storeA (b := b12) (off := 0) (cs := markL noMark) (l := markL p) ?_
  refine LOps.gen (fun S' => S.le S' ∧ S'.box b12 = some (markL p)) ⟨hle.setBox s12 _, (box_set _ _ _).trans (congrArg some (rfl))⟩ ?_
  clear hle k12
  rintro Ss ⟨hle, k12⟩
  repeat (first | refine LOps.nil ?_ | refine andThen_normal ?_ | refine andThen_exit ?_ | refine andThen_ret ?_ | refine inBlock_normal ?_ | refine inBlock_ret ?_ | refine inBlock_here ?_ | refine inBlock_out rfl ?_ | refine LWp.seq ?_ | refine LWp.region ?_ | refine LWp.block ?_ | refine LWp.exit ?_ | refine LWp.ret ?_ | refine LWp.skip ?_ | refine LOps.val (LVal.call rfl rfl (by rw [hP]; exact Try.func29) rfl (by decide) (c3)) rfl rfl rfl ?_ | refine LOps.whenC (LVal.call rfl rfl (by rw [hP]; exact Try.func29) rfl (by decide) (c3)) ?_ | refine LOps.valA ?_ | refine LOps.outA ?_ | refine LOps.whenA ?_ | refine LOps.pickA ?_)
  skip
  refine LOps.do (LDo.alloc hD rfl rfl rfl) rfl rfl rfl ?_
  rintro _ _ ⟨b13, hb13, rfl, rfl⟩
  have n12_13 := fresh_ne hb13 k12
  have m13_12 := n12_13.symm
  have s13 := hle.none hb13
  refine LOps.gen (fun S' => S.le S' ∧ S'.box b12 = some (markL p) ∧ S'.box b13 = some (markL noMark)) ⟨hle.newBox hb13 _, (box_new_ne _ _ n12_13).trans k12, box_new _ _ _⟩ ?_
  clear hle hb13 k12
  rintro S13 ⟨hle, k12, k13⟩
  refine LOps.storeA (b := b13) (off := 0) (cs := markL noMark) (l := markL q) ?_
  refine LOps.gen (fun S' => S.le S' ∧ S'.box b12 = some (markL p) ∧ S'.box b13 = some (markL q)) ⟨hle.setBox s13 _, (box_set_ne _ _ n12_13).trans k12, (box_set _ _ _).trans (congrArg some (rfl))⟩ ?_
  clear hle k12 k13
  rintro Ss ⟨hle, k12, k13⟩
  cases hL : lessM p q with
  | true =>
    rw [hL] at c6 h72 h102
    have hL2 := lessM_asym hL
    rw [hL2] at c7
    repeat (first | refine LOps.nil ?_ | refine andThen_normal ?_ | refine andThen_exit ?_ | refine andThen_ret ?_ | refine inBlock_normal ?_ | refine inBlock_ret ?_ | refine inBlock_here ?_ | refine inBlock_out rfl ?_ | refine LWp.seq ?_ | refine LWp.region ?_ | refine LWp.block ?_ | refine LWp.exit ?_ | refine LWp.ret ?_ | refine LWp.skip ?_ | refine LOps.valA ?_ | refine LOps.outA ?_ | refine LOps.whenA ?_ | refine LOps.pickA ?_ | refine LOps.storeA ?_)
    refine LWp.drawL [0, 1, 2, 3, 4, 5, 6, 7, 8, 9, 10, 11, 12, 13, 14, 15, 16, 17, 18, 19, 20, 21, 22, 23, 24, 25, 26, 27, 28, 29] (by rw [hP]; rfl) rfl ?_
    repeat (first | refine LRl.val (fun _ _ => (LVal.call rfl rfl (by rw [hP]; exact Try.func30) rfl (by decide) (c4))) rfl rfl rfl ?_ | refine LRl.val (fun _ _ => (LVal.call rfl rfl (by rw [hP]; exact Try.func30) rfl (by decide) (c5))) rfl rfl rfl ?_ | refine LRl.val (fun _ _ => (LVal.call rfl rfl (by rw [hP]; exact Try.func18) rfl (by decide) (c6))) rfl rfl rfl ?_ | refine LRl.val (fun _ _ => (LVal.call rfl rfl (by rw [hP]; exact Try.func18) rfl (by decide) (c7))) rfl rfl rfl ?_ | refine LRl.val (fun _ _ => (LVal.call rfl rfl (by rw [hP]; exact Try.func32) rfl (by decide) (c8))) rfl rfl rfl ?_ | refine LRl.val (fun _ _ => (LVal.call rfl rfl (by rw [hP]; exact Try.func32) rfl (by decide) (c9))) rfl rfl rfl ?_ | refine LRl.val (fun _ _ => (LVal.call rfl rfl (by rw [hP]; exact Try.func36) rfl (by decide) (c10))) rfl rfl rfl ?_ | refine LRl.valH (LVal.to (LVal.binOp hD rfl rfl rfl rfl) (r' := .one (bv false)) (by exact congrArg (fun b => TV.one (bv b)) h72)) ?_ (fun _ hS => LVal.to (LVal.binOp hD rfl rfl rfl rfl) (r' := .one (bv false)) (by exact congrArg (fun b => TV.one (bv b)) h72)) | refine LRl.val (fun _ _ => LVal.to (LVal.binOp hD rfl rfl rfl rfl) (r' := .one (.v (.bool true))) (congrArg (fun b => TV.one (.v (.bool b))) (by first | exact decide_eq_true (by omega) | (rw [beq_iff_eq]; omega) | (rw [bne_iff_ne]; omega)))) rfl rfl rfl ?_ | refine LRl.val (fun _ _ => LVal.to (LVal.binOp hD rfl rfl rfl rfl) (r' := .one (.v (.bool false))) (congrArg (fun b => TV.one (.v (.bool b))) (by first | exact decide_eq_false (by omega) | (rw [beq_eq_false_iff_ne]; omega) | (rw [bne_eq_false_iff_eq]; omega)))) rfl rfl rfl ?_ | refine LRl.valW ?_ | refine LRl.valC (fun _ => (LVal.call rfl rfl (by rw [hP]; exact Try.func30) rfl (by decide) (c4))) ?_ | refine LRl.valC (fun _ => (LVal.call rfl rfl (by rw [hP]; exact Try.func30) rfl (by decide) (c5))) ?_ | refine LRl.valC (fun _ => (LVal.call rfl rfl (by rw [hP]; exact Try.func18) rfl (by decide) (c6))) ?_ | refine LRl.valC (fun _ => (LVal.call rfl rfl (by rw [hP]; exact Try.func18) rfl (by decide) (c7))) ?_ | refine LRl.valC (fun _ => (LVal.call rfl rfl (by rw [hP]; exact Try.func32) rfl (by decide) (c8))) ?_ | refine LRl.valC (fun _ => (LVal.call rfl rfl (by rw [hP]; exact Try.func32) rfl (by decide) (c9))) ?_ | refine LRl.valC (fun _ => (LVal.call rfl rfl (by rw [hP]; exact Try.func36) rfl (by decide) (c10))) ?_ | refine LRl.whenC (fun _ => (LVal.call rfl rfl (by rw [hP]; exact Try.func30) rfl (by decide) (c4))) ?_ | refine LRl.whenC (fun _ => (LVal.call rfl rfl (by rw [hP]; exact Try.func30) rfl (by decide) (c5))) ?_ | refine LRl.whenC (fun _ => (LVal.call rfl rfl (by rw [hP]; exact Try.func18) rfl (by decide) (c6))) ?_ | refine LRl.whenC (fun _ => (LVal.call rfl rfl (by rw [hP]; exact Try.func18) rfl (by decide) (c7))) ?_ | refine LRl.whenC (fun _ => (LVal.call rfl rfl (by rw [hP]; exact Try.func32) rfl (by decide) (c8))) ?_ | refine LRl.whenC (fun _ => (LVal.call rfl rfl (by rw [hP]; exact Try.func32) rfl (by decide) (c9))) ?_ | refine LRl.whenC (fun _ => (LVal.call rfl rfl (by rw [hP]; exact Try.func36) rfl (by decide) (c10))) ?_ | refine LRl.nil ?_ | refine LRl.valA ?_ | refine LRl.outA ?_ | refine LRl.whenA ?_ | refine LRl.pickA ?_)
    have hne : p ≠ q := fun e => by rw [e, lessM_irr] at hL; cases hL
    repeat (first | refine LWp.condF rfl ?_ | refine LOps.valH (LVal.to (LVal.eqAgg hD rfl rfl rfl rfl rfl ea rfl) (r' := .one (bv false)) (by exact congrArg (fun b => TV.one (bv b)) ((eqM_cells p q).trans (eqM_no hne)))) ?_ | refine LOps.valH (LVal.to (LVal.binOp hD rfl rfl rfl rfl) (r' := .one (bv true)) (by exact congrArg (fun b => TV.one (bv b)) (h102 hne))) ?_ | refine LOps.nil ?_ | refine andThen_normal ?_ | refine andThen_exit ?_ | refine andThen_ret ?_ | refine inBlock_normal ?_ | refine inBlock_ret ?_ | refine inBlock_here ?_ | refine inBlock_out rfl ?_ | refine LWp.seq ?_ | refine LWp.region ?_ | refine LWp.block ?_ | refine LWp.exit ?_ | refine LWp.ret ?_ | refine LWp.skip ?_ | refine LOps.val (LVal.call rfl rfl (by rw [hP]; exact Try.func18) rfl (by decide) (c6)) rfl rfl rfl ?_ | refine LOps.val (LVal.call rfl rfl (by rw [hP]; exact Try.func36) rfl (by decide) (c11)) rfl rfl rfl ?_ | refine LOps.whenC (LVal.call rfl rfl (by rw [hP]; exact Try.func18) rfl (by decide) (c6)) ?_ | refine LOps.whenC (LVal.call rfl rfl (by rw [hP]; exact Try.func36) rfl (by decide) (c11)) ?_ | refine LOps.valA ?_ | refine LOps.outA ?_ | refine LOps.whenA ?_ | refine LOps.pickA ?_ | refine LOps.storeA ?_)
    exact ⟨_, LRes.one rfl, rfl⟩
  | false =>
    rw [hL] at c6 h72 h102
    repeat (first | refine LOps.nil ?_ | refine andThen_normal ?_ | refine andThen_exit ?_ | refine andThen_ret ?_ | refine inBlock_normal ?_ | refine inBlock_ret ?_ | refine inBlock_here ?_ | refine inBlock_out rfl ?_ | refine LWp.seq ?_ | refine LWp.region ?_ | refine LWp.block ?_ | refine LWp.exit ?_ | refine LWp.ret ?_ | refine LWp.skip ?_ | refine LOps.valA ?_ | refine LOps.outA ?_ | refine LOps.whenA ?_ | refine LOps.pickA ?_ | refine LOps.storeA ?_)
    refine LWp.drawL [0, 1, 2, 3, 4, 5, 6, 7, 8, 9, 10, 11, 12, 13, 14, 15, 16, 17, 18, 19, 20, 21, 22, 23, 24, 25, 26, 27, 28, 29] (by rw [hP]; rfl) rfl ?_
    repeat (first | refine LRl.val (fun _ _ => (LVal.call rfl rfl (by rw [hP]; exact Try.func30) rfl (by decide) (c4))) rfl rfl rfl ?_ | refine LRl.val (fun _ _ => (LVal.call rfl rfl (by rw [hP]; exact Try.func30) rfl (by decide) (c5))) rfl rfl rfl ?_ | refine LRl.val (fun _ _ => (LVal.call rfl rfl (by rw [hP]; exact Try.func18) rfl (by decide) (c6))) rfl rfl rfl ?_ | refine LRl.val (fun _ _ => (LVal.call rfl rfl (by rw [hP]; exact Try.func32) rfl (by decide) (c8))) rfl rfl rfl ?_ | refine LRl.val (fun _ _ => (LVal.call rfl rfl (by rw [hP]; exact Try.func32) rfl (by decide) (c9))) rfl rfl rfl ?_ | refine LRl.val (fun _ _ => (LVal.call rfl rfl (by rw [hP]; exact Try.func36) rfl (by decide) (c10))) rfl rfl rfl ?_ | refine LRl.valH (LVal.to (LVal.binOp hD rfl rfl rfl rfl) (r' := .one (bv false)) (by exact congrArg (fun b => TV.one (bv b)) h72)) ?_ (fun _ hS => LVal.to (LVal.binOp hD rfl rfl rfl rfl) (r' := .one (bv false)) (by exact congrArg (fun b => TV.one (bv b)) h72)) | refine LRl.val (fun _ _ => LVal.to (LVal.binOp hD rfl rfl rfl rfl) (r' := .one (.v (.bool true))) (congrArg (fun b => TV.one (.v (.bool b))) (by first | exact decide_eq_true (by omega) | (rw [beq_iff_eq]; omega) | (rw [bne_iff_ne]; omega)))) rfl rfl rfl ?_ | refine LRl.val (fun _ _ => LVal.to (LVal.binOp hD rfl rfl rfl rfl) (r' := .one (.v (.bool false))) (congrArg (fun b => TV.one (.v (.bool b))) (by first | exact decide_eq_false (by omega) | (rw [beq_eq_false_iff_ne]; omega) | (rw [bne_eq_false_iff_eq]; omega)))) rfl rfl rfl ?_ | refine LRl.valW ?_ | refine LRl.valC (fun _ => (LVal.call rfl rfl (by rw [hP]; exact Try.func30) rfl (by decide) (c4))) ?_ | refine LRl.valC (fun _ => (LVal.call rfl rfl (by rw [hP]; exact Try.func30) rfl (by decide) (c5))) ?_ | refine LRl.valC (fun _ => (LVal.call rfl rfl (by rw [hP]; exact Try.func18) rfl (by decide) (c6))) ?_ | refine LRl.valC (fun _ => (LVal.call rfl rfl (by rw [hP]; exact Try.func32) rfl (by decide) (c8))) ?_ | refine LRl.valC (fun _ => (LVal.call rfl rfl (by rw [hP]; exact Try.func32) rfl (by decide) (c9))) ?_ | refine LRl.valC (fun _ => (LVal.call rfl rfl (by rw [hP]; exact Try.func36) rfl (by decide) (c10))) ?_ | refine LRl.whenC (fun _ => (LVal.call rfl rfl (by rw [hP]; exact Try.func30) rfl (by decide) (c4))) ?_ | refine LRl.whenC (fun _ => (LVal.call rfl rfl (by rw [hP]; exact Try.func30) rfl (by decide) (c5))) ?_ | refine LRl.whenC (fun _ => (LVal.call rfl rfl (by rw [hP]; exact Try.func18) rfl (by decide) (c6))) ?_ | refine LRl.whenC (fun _ => (LVal.call rfl rfl (by rw [hP]; exact Try.func32) rfl (by decide) (c8))) ?_ | refine LRl.whenC (fun _ => (LVal.call rfl rfl (by rw [hP]; exact Try.func32) rfl (by decide) (c9))) ?_ | refine LRl.whenC (fun _ => (LVal.call rfl rfl (by rw [hP]; exact Try.func36) rfl (by decide) (c10))) ?_ | refine LRl.nil ?_ | refine LRl.valA ?_ | refine LRl.outA ?_ | refine LRl.whenA ?_ | refine LRl.pickA ?_)
    by_cases hpq : p = q
    · by_cases h9 : p.c = 9
      · repeat (first | refine LWp.condF rfl ?_ | refine LWp.condT rfl ?_ | refine LOps.valH (LVal.to (LVal.eqAgg hD rfl rfl rfl rfl rfl ea rfl) (r' := .one (bv true)) (by exact congrArg (fun b => TV.one (bv b)) ((eqM_cells p q).trans ((eqM_iff p q).2 hpq)))) ?_ | refine LOps.valH (LVal.to (LVal.binOp hD rfl rfl rfl rfl) (r' := .one (.v (.bool true))) (congrArg (fun b => TV.one (.v (.bool b))) (by first | exact decide_eq_true (by omega) | (rw [beq_iff_eq]; omega) | (rw [bne_iff_ne]; omega)))) ?_ | refine LOps.valH (LVal.to (LVal.binOp hD rfl rfl rfl rfl) (r' := .one (.v (.bool false))) (congrArg (fun b => TV.one (.v (.bool b))) (by first | exact decide_eq_false (by omega) | (rw [beq_eq_false_iff_ne]; omega) | (rw [bne_eq_false_iff_eq]; omega)))) ?_ | refine LOps.valW ?_ | refine LOps.nil ?_ | refine andThen_normal ?_ | refine andThen_exit ?_ | refine andThen_ret ?_ | refine inBlock_normal ?_ | refine inBlock_ret ?_ | refine inBlock_here ?_ | refine inBlock_out rfl ?_ | refine LWp.seq ?_ | refine LWp.region ?_ | refine LWp.block ?_ | refine LWp.exit ?_ | refine LWp.ret ?_ | refine LWp.skip ?_ | refine LOps.valA ?_ | refine LOps.outA ?_ | refine LOps.whenA ?_ | refine LOps.pickA ?_ | refine LOps.storeA ?_)
        exact ⟨_, LRes.one rfl, rfl⟩
      · have hxy : pre ++ a = pre ++ b := by
          rcases same hpq with h | h
          · exact absurd h h9
          · exact h
        repeat (first | refine LWp.condF rfl ?_ | refine LWp.condT rfl ?_ | refine LOps.valH (LVal.to (LVal.eqAgg hD rfl rfl rfl rfl rfl ea rfl) (r' := .one (bv true)) (by exact congrArg (fun b => TV.one (bv b)) ((eqM_cells p q).trans ((eqM_iff p q).2 hpq)))) ?_ | refine LOps.valH (LVal.to (LVal.eqStr rfl rfl rfl) (r' := .one (bv true)) (by exact congrArg (fun b => TV.one (bv b)) (decide_eq_true hxy))) ?_ | refine LOps.valH (LVal.to (LVal.binOp hD rfl rfl rfl rfl) (r' := .one (.v (.bool true))) (congrArg (fun b => TV.one (.v (.bool b))) (by first | exact decide_eq_true (by omega) | (rw [beq_iff_eq]; omega) | (rw [bne_iff_ne]; omega)))) ?_ | refine LOps.valH (LVal.to (LVal.binOp hD rfl rfl rfl rfl) (r' := .one (.v (.bool false))) (congrArg (fun b => TV.one (.v (.bool b))) (by first | exact decide_eq_false (by omega) | (rw [beq_eq_false_iff_ne]; omega) | (rw [bne_eq_false_iff_eq]; omega)))) ?_ | refine LOps.valW ?_ | refine LOps.nil ?_ | refine andThen_normal ?_ | refine andThen_exit ?_ | refine andThen_ret ?_ | refine inBlock_normal ?_ | refine inBlock_ret ?_ | refine inBlock_here ?_ | refine inBlock_out rfl ?_ | refine LWp.seq ?_ | refine LWp.region ?_ | refine LWp.block ?_ | refine LWp.exit ?_ | refine LWp.ret ?_ | refine LWp.skip ?_ | refine LOps.valA ?_ | refine LOps.outA ?_ | refine LOps.whenA ?_ | refine LOps.pickA ?_ | refine LOps.storeA ?_)
        exact ⟨_, LRes.one rfl, rfl⟩
    · repeat (first | refine LWp.condF rfl ?_ | refine LOps.valH (LVal.to (LVal.eqAgg hD rfl rfl rfl rfl rfl ea rfl) (r' := .one (bv false)) (by exact congrArg (fun b => TV.one (bv b)) ((eqM_cells p q).trans (eqM_no hpq)))) ?_ | refine LOps.valH (LVal.to (LVal.binOp hD rfl rfl rfl rfl) (r' := .one (bv true)) (by exact congrArg (fun b => TV.one (bv b)) (h102 hpq))) ?_ | refine LOps.nil ?_ | refine andThen_normal ?_ | refine andThen_exit ?_ | refine andThen_ret ?_ | refine inBlock_normal ?_ | refine inBlock_ret ?_ | refine inBlock_here ?_ | refine inBlock_out rfl ?_ | refine LWp.seq ?_ | refine LWp.region ?_ | refine LWp.block ?_ | refine LWp.exit ?_ | refine LWp.ret ?_ | refine LWp.skip ?_ | refine LOps.val (LVal.call rfl rfl (by rw [hP]; exact Try.func18) rfl (by decide) (c6)) rfl rfl rfl ?_ | refine LOps.val (LVal.call rfl rfl (by rw [hP]; exact Try.func36) rfl (by decide) (c11)) rfl rfl rfl ?_ | refine LOps.whenC (LVal.call rfl rfl (by rw [hP]; exact Try.func18) rfl (by decide) (c6)) ?_ | refine LOps.whenC (LVal.call rfl rfl (by rw [hP]; exact Try.func36) rfl (by decide) (c11)) ?_ | refine LOps.valA ?_ | refine LOps.outA ?_ | refine LOps.whenA ?_ | refine LOps.pickA ?_ | refine LOps.storeA ?_)
      exact ⟨_, LRes.one rfl, rfl⟩
end Go.Proofs.Ytgkjhlmfgaaddaa.LF

namespace Go.Proofs.Ytgkjhlmfgaaddaa
open Go.RowKit LF
theorem mleafOrder_walk (W : World) (v0 : Value) (l0 : List LV) (y0 : Typed LF.D 9 l0) (g0 : RepT (G0 Try.prog W) W (allCells W) (argTV ti9 l0) v0) (v1 : Value) (l1 : List LV) (y1 : Typed LF.D 9 l1) (g1 : RepT (G0 Try.prog W) W (allCells W) (argTV ti9 l1) v1) (v2 : Value) (l2 : List LV) (y2 : Typed LF.D 9 l2) (g2 : RepT (G0 Try.prog W) W (allCells W) (argTV ti9 l2) v2) (v3 : Value) (l3 : List LV) (y3 : Typed LF.D 5 l3) (g3 : RepT (G0 Try.prog W) W (allCells W) (argTV ti5 l3) v3) :
    Calls Try.prog 6 #[v0, v1, v2, v3] W fun e W' => e = .returned (.bool true) ∧ Below W.heap.size W W' := by
  obtain ⟨b0, rfl, _⟩ := typed_str rfl rfl y0
  obtain ⟨a0, rfl, _⟩ := typed_str rfl rfl y1
  obtain ⟨d0, rfl, _⟩ := typed_str rfl rfl y2
  obtain ⟨i, rfl, w⟩ := typed_int rfl rfl y3
  exact law_calls (fun G S h => order_L h b0 a0 d0 i (wf_u8' w) S) (.cons (vs := [v1, v2, v3]) g0 (.cons (vs := [v2, v3]) g1 (.cons (vs := [v3]) g2 (.cons (vs := []) g3 .nil))))
end Go.Proofs.Ytgkjhlmfgaaddaa
