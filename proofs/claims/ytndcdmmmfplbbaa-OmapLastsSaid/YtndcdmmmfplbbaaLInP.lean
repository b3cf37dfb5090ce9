/- slices.Insert and slices.Delete of one thing, slices.Clone, over rows in boxes, for the element type marshalling/api.Pair. (Printed by gen_slices.sh.) -/
import Derived.Test.YtndcdmmmfplbbaaLRw
import Derived.Test.YtndcdmmmfplbbaaLGa
import Derived.Test.YtndcdmmmfplbbaaLFtab
set_option linter.unusedVariables false
set_option linter.unusedSimpArgs false
namespace Go.Proofs.Ytndcdmmmfplbbaa.LF
open Go.RowKit
set_option linter.unusedVariables false

set_option maxHeartbeats 4000000 in
theorem insP_L {G : Ctx} (hP : G.P = Try.prog) {α : Type} {f : α → List LV} (hz : ∀ x, (f x).length = 2) (l : List α) {i : Nat} (hi : i ≤ l.length) (x : α) (X : LV) (b2 : Nat) (S : LS) (hX : SlAt f 2 S X l) (hv : S.box b2 = some (f x)) (hne : blockOf X ≠ some b2) (hsm : l.length ≤ 1000000) :
    LCalls G 39 [.one X, .one (iv (i : Nat)), .one (rsl b2 0 1 1)] (fun R S' => ∃ X', R = .one X' ∧ SlAt f 2 S' X' (insL l i x) ∧ Mv S X S' X') S := by
  have hD : TabOK G.P D := by rw [hP]; exact hD0
  have hv1 : SrcL S 2 (rsl b2 0 1 1) 1 (f x) := .all hv (hz x)
  cases hX with
  | nil =>
    obtain rfl : i = 0 := by simpa using hi
    refine LCalls.enter (fn := Try.f39) (by rw [hP]; exact Try.func39) rfl rfl ?_
    repeat (first | refine LOps.valH (LVal.sliceNil hD rfl rfl rfl rfl rfl rfl rfl rfl rfl) ?_ | refine LOps.valH (LVal.lenR hD rfl rfl rfl rfl) ?_ | refine LWp.condF rfl ?_ | refine LOps.nil ?_ | refine andThen_normal ?_ | refine andThen_exit ?_ | refine andThen_ret ?_ | refine inBlock_normal ?_ | refine inBlock_ret ?_ | refine inBlock_here ?_ | refine inBlock_out rfl ?_ | refine LWp.seq ?_ | refine LWp.region ?_ | refine LWp.block ?_ | refine LWp.exit ?_ | refine LWp.ret ?_ | refine LWp.skip ?_ | refine LOps.valA ?_ | refine LOps.outA ?_ | refine LOps.whenA ?_ | refine LOps.pickA ?_ | refine LOps.storeA ?_)
    repeat (first | refine LWp.condT rfl ?_ | refine LOps.nil ?_ | refine andThen_normal ?_ | refine andThen_exit ?_ | refine andThen_ret ?_ | refine inBlock_normal ?_ | refine inBlock_ret ?_ | refine inBlock_here ?_ | refine inBlock_out rfl ?_ | refine LWp.seq ?_ | refine LWp.region ?_ | refine LWp.block ?_ | refine LWp.exit ?_ | refine LWp.ret ?_ | refine LWp.skip ?_ | refine LOps.valA ?_ | refine LOps.outA ?_ | refine LOps.whenA ?_ | refine LOps.pickA ?_ | refine LOps.storeA ?_)
    refine LOps.do (LDo.appendGrowR (n := 0) (c := 0) (m := 1) (l := []) hD rfl rfl rfl rfl rfl rfl rfl rfl rfl (.inr ⟨rfl, rfl⟩) (SrcL.sl .nil [] (by simp)) hv1 (by decide) (by decide)) rfl rfl rfl ?_
    rintro _ _ ⟨b', c', hb', hc', rfl, rfl⟩
    repeat (first | refine LOps.nil ?_ | refine andThen_normal ?_ | refine andThen_exit ?_ | refine andThen_ret ?_ | refine inBlock_normal ?_ | refine inBlock_ret ?_ | refine inBlock_here ?_ | refine inBlock_out rfl ?_ | refine LWp.seq ?_ | refine LWp.region ?_ | refine LWp.block ?_ | refine LWp.exit ?_ | refine LWp.ret ?_ | refine LWp.skip ?_ | refine LOps.valA ?_ | refine LOps.outA ?_ | refine LOps.whenA ?_ | refine LOps.pickA ?_ | refine LOps.storeA ?_)
    refine ⟨_, LRes.one rfl, _, rfl, ?_, .grow (.newBox (.refl _) hb' _) hb' _ _⟩
    exact SlAt.row b' c' [x] (zrow ti50 (c' - (0 + 1))) ⟨by rw [box_new, cellsR_one]; rfl, zrow_length _ _, hc'⟩
  | row r c _ rest hr =>
    have hlen := hr.len hz
    have hcap := hr.cap
    have hroom := hr.room
    have hb := hr.box
    have hrb : r ≠ b2 := fun e => hne (by rw [e]; rfl)
    refine LCalls.enter (fn := Try.f39) (by rw [hP]; exact Try.func39) rfl rfl ?_
    repeat (first | refine LOps.valH (LVal.sliceR hD rfl rfl rfl rfl rfl rfl rfl hi hcap) ?_ | refine LOps.valH (LVal.lenR hD rfl rfl rfl rfl) ?_ | refine LWp.condF rfl ?_ | refine LOps.nil ?_ | refine andThen_normal ?_ | refine andThen_exit ?_ | refine andThen_ret ?_ | refine inBlock_normal ?_ | refine inBlock_ret ?_ | refine inBlock_here ?_ | refine inBlock_out rfl ?_ | refine LWp.seq ?_ | refine LWp.region ?_ | refine LWp.block ?_ | refine LWp.exit ?_ | refine LWp.ret ?_ | refine LWp.skip ?_ | refine LOps.valA ?_ | refine LOps.outA ?_ | refine LOps.whenA ?_ | refine LOps.pickA ?_ | refine LOps.storeA ?_)
    repeat (first | refine LOps.nil ?_ | refine andThen_normal ?_ | refine andThen_exit ?_ | refine andThen_ret ?_ | refine inBlock_normal ?_ | refine inBlock_ret ?_ | refine inBlock_here ?_ | refine inBlock_out rfl ?_ | refine LWp.seq ?_ | refine LWp.region ?_ | refine LWp.block ?_ | refine LWp.exit ?_ | refine LWp.ret ?_ | refine LWp.skip ?_ | refine LOps.valA ?_ | refine LOps.outA ?_ | refine LOps.whenA ?_ | refine LOps.pickA ?_ | refine LOps.storeA ?_)
    refine LWp.cond rfl (fun h => ?_) (fun h => ?_)
    · have h : (((i : Nat) : Int) == (l.length : Int)) = true := h
      rw [beq_iff_eq] at h
      obtain rfl : i = l.length := by omega
      repeat (first | refine LOps.nil ?_ | refine andThen_normal ?_ | refine andThen_exit ?_ | refine andThen_ret ?_ | refine inBlock_normal ?_ | refine inBlock_ret ?_ | refine inBlock_here ?_ | refine inBlock_out rfl ?_ | refine LWp.seq ?_ | refine LWp.region ?_ | refine LWp.block ?_ | refine LWp.exit ?_ | refine LWp.ret ?_ | refine LWp.skip ?_ | refine LOps.valA ?_ | refine LOps.outA ?_ | refine LOps.whenA ?_ | refine LOps.pickA ?_ | refine LOps.storeA ?_)
      by_cases hc : l.length + 1 ≤ c
      · refine LOps.do (LDo.appendRoomR (m := 1) hD rfl rfl rfl rfl rfl rfl rfl hb (by show 0 + c * 2 ≤ _; rw [hlen]; omega) hv1 hc) rfl rfl rfl ?_
        rintro _ _ ⟨rfl, rfl⟩
        repeat (first | refine LOps.nil ?_ | refine andThen_normal ?_ | refine andThen_exit ?_ | refine andThen_ret ?_ | refine inBlock_normal ?_ | refine inBlock_ret ?_ | refine inBlock_here ?_ | refine inBlock_out rfl ?_ | refine LWp.seq ?_ | refine LWp.region ?_ | refine LWp.block ?_ | refine LWp.exit ?_ | refine LWp.ret ?_ | refine LWp.skip ?_ | refine LOps.valA ?_ | refine LOps.outA ?_ | refine LOps.whenA ?_ | refine LOps.pickA ?_ | refine LOps.storeA ?_)
        refine ⟨_, LRes.one rfl, _, rfl, ?_, Mv.set⟩
        rw [insL_end]
        have hr1 : 2 ≤ rest.length := by rw [hroom]; exact Nat.le_mul_of_pos_left _ (by omega)
        have hfin := SlAt.row (f := f) (z := 2) (S := S.setBox r (splice (cellsR f l ++ rest) (0 + l.length * 2) (f x))) r c (l ++ [x]) (rest.drop 2) ⟨by
          rw [box_set, cellsR_append, cellsR_one, Nat.zero_add]
          have e1 : cellsR f l ++ rest = cellsR f l ++ rest.take 2 ++ rest.drop 2 := by rw [List.append_assoc, List.take_append_drop]
          rw [e1, splice_at (cellsR_length hz l).symm (by rw [hz, List.length_take, Nat.min_eq_left hr1])], by
          rw [List.length_drop, hroom, List.length_append, show c - l.length = (c - (l.length + 1)) + 1 by omega, Nat.add_mul, Nat.one_mul, Nat.add_sub_cancel]; rfl, by rw [List.length_append]; exact hc⟩
        rw [List.length_append] at hfin
        exact hfin
      · refine LOps.do (LDo.appendGrowR (n := l.length) (c := c) (m := 1) (l := cellsR f l) hD rfl rfl rfl rfl rfl rfl rfl rfl rfl (.inl ⟨_, rfl⟩) (by have := hr.src hz (Nat.zero_le _) c; rw [partOff_00] at this; exact this) hv1 (by omega) (by omega)) rfl rfl rfl ?_
        rintro _ _ ⟨b', c', hb', hc', rfl, rfl⟩
        repeat (first | refine LOps.nil ?_ | refine andThen_normal ?_ | refine andThen_exit ?_ | refine andThen_ret ?_ | refine inBlock_normal ?_ | refine inBlock_ret ?_ | refine inBlock_here ?_ | refine inBlock_out rfl ?_ | refine LWp.seq ?_ | refine LWp.region ?_ | refine LWp.block ?_ | refine LWp.exit ?_ | refine LWp.ret ?_ | refine LWp.skip ?_ | refine LOps.valA ?_ | refine LOps.outA ?_ | refine LOps.whenA ?_ | refine LOps.pickA ?_ | refine LOps.storeA ?_)
        refine ⟨_, LRes.one rfl, _, rfl, ?_, .grow (.newBox (.refl _) hb' _) hb' _ _⟩
        rw [insL_end]
        have hfin := SlAt.row (f := f) (z := 2) (S := S.newBox b' (cellsR f l ++ f x ++ zrow ti50 (c' - (l.length + 1)))) b' c' (l ++ [x]) (zrow ti50 (c' - (l.length + 1))) ⟨by
          rw [box_new, cellsR_append, cellsR_one], by rw [zrow_length, List.length_append]; rfl, by rw [List.length_append]; exact hc'⟩
        rw [List.length_append] at hfin
        exact hfin
    have h : (((i : Nat) : Int) == (l.length : Int)) = false := h
    rw [beq_eq_false_iff_ne] at h
    have hlt : i < l.length := by omega
    clear h
    repeat (first | refine LOps.valH (LVal.capR hD rfl rfl rfl rfl) ?_ | refine LOps.nil ?_ | refine andThen_normal ?_ | refine andThen_exit ?_ | refine andThen_ret ?_ | refine inBlock_normal ?_ | refine inBlock_ret ?_ | refine inBlock_here ?_ | refine inBlock_out rfl ?_ | refine LWp.seq ?_ | refine LWp.region ?_ | refine LWp.block ?_ | refine LWp.exit ?_ | refine LWp.ret ?_ | refine LWp.skip ?_ | refine LOps.valA ?_ | refine LOps.outA ?_ | refine LOps.whenA ?_ | refine LOps.pickA ?_ | refine LOps.storeA ?_)
    have hT : (cellsR f (l.take i)).length = i * 2 := by rw [cellsR_length hz, List.length_take, Nat.min_eq_left hi]
    refine LWp.cond rfl (fun h => ?_) (fun h => ?_)
    · have h : decide ((l.length : Int) + ((1 : Nat) : Int) > (c : Int)) = true := h
      rw [decide_eq_true_iff] at h
      have hc : c < l.length + 1 := by omega
      clear h
      have q1 : (l.length : Int) + ((1 : Nat) : Int) - ((i : Nat) : Int) = (((l.length + 1 - i : Nat)) : Int) := by omega
      repeat (first | refine LOps.valH (LVal.to (LVal.sliceR (l := 0) (h := i) hD rfl rfl rfl rfl rfl rfl rfl (Nat.zero_le _) (by omega)) (r' := .one (rsl r 0 i c)) (by rw [partOff_00]; rfl)) ?_ | refine LOps.valH (LVal.to (LVal.sub64 rfl rfl rfl (by omega)) (r' := .one (iv ((l.length + 1 - i : Nat) : Int))) (by rw [q1])) ?_ | refine LOps.nil ?_ | refine andThen_normal ?_ | refine andThen_exit ?_ | refine andThen_ret ?_ | refine inBlock_normal ?_ | refine inBlock_ret ?_ | refine inBlock_here ?_ | refine inBlock_out rfl ?_ | refine LWp.seq ?_ | refine LWp.region ?_ | refine LWp.block ?_ | refine LWp.exit ?_ | refine LWp.ret ?_ | refine LWp.skip ?_ | refine LOps.valA ?_ | refine LOps.outA ?_ | refine LOps.whenA ?_ | refine LOps.pickA ?_ | refine LOps.storeA ?_)
      refine LOps.do (LDo.appendZerosR (m := l.length + 1 - i) (l := cellsR f (l.take i)) hD rfl rfl rfl rfl rfl rfl rfl rfl rfl rfl rfl (by
        have := SrcL.raw (S := S) (z := 2) r 0 i c _ hb (by rw [hlen, Nat.zero_add]; exact Nat.mul_le_mul_right _ (by omega))
        rw [List.drop_zero, List.take_append_of_le_length (by rw [cellsR_length hz]; exact Nat.mul_le_mul_right _ hi), cellsR_take hz l hi] at this
        exact this) (by omega) (by omega) (by omega)) rfl rfl rfl ?_
      rintro _ _ ⟨b', c', hb', hc', rfl, rfl⟩
      have e2 : i + (l.length + 1 - i) = l.length + 1 := by omega
      rw [e2] at hc' ⊢
      have hle := LS.le.newBox (.refl S) hb' (cellsR f (l.take i) ++ zrow ti50 (l.length + 1 - i) ++ zrow ti50 (c' - (l.length + 1)))
      have k1 := box_new S b' (cellsR f (l.take i) ++ zrow ti50 (l.length + 1 - i) ++ zrow ti50 (c' - (l.length + 1)))
      have k2 := hle.box _ _ hv
      have k3 := hle.box _ _ hb
      have n1 : r ≠ b' := fun e => by rw [← e] at hb'; rw [hb'.box] at hb; cases hb
      have n2 : b2 ≠ b' := fun e => by rw [← e] at hb'; rw [hb'.box] at hv; cases hv
      have hlen' : (cellsR f (l.take i) ++ zrow ti50 (l.length + 1 - i) ++ zrow ti50 (c' - (l.length + 1))).length = c' * 2 := by
        rw [List.length_append, List.length_append, hT, zrow_length, zrow_length]
        show i * 2 + (l.length + 1 - i) * 2 + (c' - (l.length + 1)) * 2 = _
        rw [← Nat.add_mul, ← Nat.add_mul]
        congr 1; omega
      have hv2 : SrcL (S.newBox b' (cellsR f (l.take i) ++ zrow ti50 (l.length + 1 - i) ++ zrow ti50 (c' - (l.length + 1)))) 2 (rsl b2 0 1 1) 1 (f x) := .all k2 (hz x)
      have a1 : partOff 0 i c' 2 = i * 2 := partOff_0 _ _ _ (by omega)
      have a2 : partOff 0 (i + 1) c' 2 = (i + 1) * 2 := partOff_0 _ _ _ (by omega)
      repeat (first | refine LOps.valH (LVal.to (LVal.sliceR (l := i) (h := l.length + 1) hD rfl rfl rfl rfl rfl rfl rfl (by omega) hc') (r' := .one (rsl b' (i * 2) (l.length + 1 - i) (c' - i))) (by rw [← a1]; rfl)) ?_ | refine LOps.nil ?_ | refine andThen_normal ?_ | refine andThen_exit ?_ | refine andThen_ret ?_ | refine inBlock_normal ?_ | refine inBlock_ret ?_ | refine inBlock_here ?_ | refine inBlock_out rfl ?_ | refine LWp.seq ?_ | refine LWp.region ?_ | refine LWp.block ?_ | refine LWp.exit ?_ | refine LWp.ret ?_ | refine LWp.skip ?_ | refine LOps.valA ?_ | refine LOps.outA ?_ | refine LOps.whenA ?_ | refine LOps.pickA ?_ | refine LOps.storeA ?_)
      refine LOps.do (LDo.copyR hD rfl rfl rfl rfl rfl rfl rfl k1 (by
        show i * 2 + (l.length + 1 - i) * 2 ≤ _
        rw [hlen', ← Nat.add_mul]; exact Nat.mul_le_mul_right _ (by omega)) hv2) rfl rfl rfl ?_
      rintro _ _ ⟨rfl, rfl⟩
      have e3 : Nat.min 1 (l.length + 1 - i) = 1 := Nat.min_eq_left (by omega)
      have e4 : (f x).take (Nat.min 1 (l.length + 1 - i) * 2) = f x := by rw [e3]; exact List.take_of_length_le (by rw [hz]; decide)
      rw [show ti50.size = 2 from rfl, e4]
      generalize hS1 : S.newBox b' (cellsR f (l.take i) ++ zrow ti50 (l.length + 1 - i) ++ zrow ti50 (c' - (l.length + 1))) = S1 at *
      have k4 := box_set S1 b' (splice (cellsR f (l.take i) ++ zrow ti50 (l.length + 1 - i) ++ zrow ti50 (c' - (l.length + 1))) (i * 2) (f x))
      have k5 := (box_set_ne S1 (splice (cellsR f (l.take i) ++ zrow ti50 (l.length + 1 - i) ++ zrow ti50 (c' - (l.length + 1))) (i * 2) (f x)) n1).trans k3
      have hlen2 : (splice (cellsR f (l.take i) ++ zrow ti50 (l.length + 1 - i) ++ zrow ti50 (c' - (l.length + 1))) (i * 2) (f x)).length = c' * 2 := by
        rw [splice_length (by rw [hlen', hz, ← Nat.add_one_mul]; exact Nat.mul_le_mul_right _ (by omega)), hlen']
      have hr5 := (RowIn.mk (f := f) (z := 2) k5 hroom hcap).src hz hi (c - i)
      repeat (first | refine LOps.nil ?_ | refine andThen_normal ?_ | refine andThen_exit ?_ | refine andThen_ret ?_ | refine inBlock_normal ?_ | refine inBlock_ret ?_ | refine inBlock_here ?_ | refine inBlock_out rfl ?_ | refine LWp.seq ?_ | refine LWp.region ?_ | refine LWp.block ?_ | refine LWp.exit ?_ | refine LWp.ret ?_ | refine LWp.skip ?_ | refine LOps.valA ?_ | refine LOps.outA ?_ | refine LOps.whenA ?_ | refine LOps.pickA ?_ | refine LOps.storeA ?_)
      refine LWp.drawL [0, 1, 2, 3, 4, 5, 6, 7, 8] (by rw [hP]; rfl) rfl ?_
      repeat (first | refine LRl.val (fun _ _ => LVal.to (LVal.sliceR (l := i + 1) (h := l.length + 1) hD rfl rfl rfl rfl rfl rfl rfl (by omega) hc') (r' := .one (rsl b' ((i + 1) * 2) (l.length - i) (c' - (i + 1)))) (by rw [← a2, show l.length - i = l.length + 1 - (i + 1) by omega]; rfl)) rfl rfl rfl ?_ | refine LRl.val (fun _ _ => LVal.sliceR (l := i) (h := l.length) hD rfl rfl rfl rfl rfl rfl rfl hi hcap) rfl rfl rfl ?_ | refine LRl.nil ?_ | refine LRl.valA ?_ | refine LRl.outA ?_ | refine LRl.whenA ?_ | refine LRl.pickA ?_)
      refine LRl.act (LDo.copyR hD rfl rfl rfl rfl rfl rfl rfl k4 (by
        show (i + 1) * 2 + (l.length - i) * 2 ≤ _
        rw [hlen2, ← Nat.add_mul]; exact Nat.mul_le_mul_right _ (by omega)) hr5) rfl rfl rfl rfl (fun _ _ _ => .inr rfl) ?_
      rintro _ _ ⟨rfl, rfl⟩
      have e5 : (cellsR f (l.drop i)).take (Nat.min (l.length - i) (l.length - i) * 2) = cellsR f (l.drop i) := by
        rw [show Nat.min (l.length - i) (l.length - i) = l.length - i from Nat.min_self _]
        exact List.take_of_length_le (by rw [cellsR_length hz, List.length_drop]; exact Nat.le_refl _)
      rw [show ti50.size = 2 from rfl, e5, grow_ins hz hi (by rw [zrow_length]; rfl)]
      repeat (first | refine LRl.nil ?_ | refine LRl.valA ?_ | refine LRl.outA ?_ | refine LRl.whenA ?_ | refine LRl.pickA ?_)
      repeat (first | refine LOps.nil ?_ | refine andThen_normal ?_ | refine andThen_exit ?_ | refine andThen_ret ?_ | refine inBlock_normal ?_ | refine inBlock_ret ?_ | refine inBlock_here ?_ | refine inBlock_out rfl ?_ | refine LWp.seq ?_ | refine LWp.region ?_ | refine LWp.block ?_ | refine LWp.exit ?_ | refine LWp.ret ?_ | refine LWp.skip ?_ | refine LOps.valA ?_ | refine LOps.outA ?_ | refine LOps.whenA ?_ | refine LOps.pickA ?_ | refine LOps.storeA ?_)
      refine ⟨_, LRes.one rfl, _, rfl, ?_, ?_⟩
      · have hfin := SlAt.row (f := f) (z := 2) (S := (S1.setBox b' (splice (cellsR f (l.take i) ++ zrow ti50 (l.length + 1 - i) ++ zrow ti50 (c' - (l.length + 1))) (i * 2) (f x))).setBox b' (cellsR f (insL l i x) ++ zrow ti50 (c' - (l.length + 1)))) b' c' (insL l i x) (zrow ti50 (c' - (l.length + 1))) ⟨box_set _ _ _, by rw [zrow_length, insL_length l hi]; rfl, by rw [insL_length l hi]; exact hc'⟩
        rw [insL_length l hi] at hfin
        exact hfin
      · exact .grow ((hle.setBox hb'.box _).setBox hb'.box _) hb' _ _
    have h : decide ((l.length : Int) + ((1 : Nat) : Int) > (c : Int)) = false := h
    rw [decide_eq_false_iff_not] at h
    have hc : l.length + 1 ≤ c := by omega
    clear h
    have a1 : partOff 0 i c 2 = i * 2 := partOff_0 _ _ _ (by omega)
    have a2 : partOff 0 (i + 1) c 2 = (i + 1) * 2 := partOff_0 _ _ _ (by omega)
    have hzr : 2 ≤ rest.length := by rw [hroom]; exact Nat.le_mul_of_pos_left _ (by omega)
    repeat (first | refine LOps.valH (LVal.to (LVal.sliceR (l := 0) (h := l.length + 1) hD rfl rfl rfl rfl rfl rfl rfl (Nat.zero_le _) hc) (r' := .one (rsl r 0 (l.length + 1) c)) (by rw [partOff_00]; rfl)) ?_ | refine LWp.condT rfl ?_ | refine LOps.valH (LVal.to (LVal.sliceR (l := i + 1) (h := l.length + 1) hD rfl rfl rfl rfl rfl rfl rfl (by omega) hc) (r' := .one (rsl r ((i + 1) * 2) (l.length - i) (c - (i + 1)))) (by rw [← a2, show l.length - i = l.length + 1 - (i + 1) by omega]; rfl)) ?_ | refine LOps.nil ?_ | refine andThen_normal ?_ | refine andThen_exit ?_ | refine andThen_ret ?_ | refine inBlock_normal ?_ | refine inBlock_ret ?_ | refine inBlock_here ?_ | refine inBlock_out rfl ?_ | refine LWp.seq ?_ | refine LWp.region ?_ | refine LWp.block ?_ | refine LWp.exit ?_ | refine LWp.ret ?_ | refine LWp.skip ?_ | refine LOps.valA ?_ | refine LOps.outA ?_ | refine LOps.whenA ?_ | refine LOps.pickA ?_ | refine LOps.storeA ?_)
    refine LOps.val (LVal.overlapsR (t := 22) (tR := 4) hD rfl (by rw [hP]; exact Try.func45) (by kernel_rfl) (by kernel_rfl) (by kernel_rfl) (by kernel_rfl) rfl rfl rfl rfl rfl hv hb (fun e => hrb e.symm) (by rw [hlen]; exact Nat.mul_ne_zero (by omega) (by decide))) rfl rfl rfl ?_
    repeat (first | refine LWp.condT rfl ?_ | refine LOps.nil ?_ | refine andThen_normal ?_ | refine andThen_exit ?_ | refine andThen_ret ?_ | refine inBlock_normal ?_ | refine inBlock_ret ?_ | refine inBlock_here ?_ | refine inBlock_out rfl ?_ | refine LWp.seq ?_ | refine LWp.region ?_ | refine LWp.block ?_ | refine LWp.exit ?_ | refine LWp.ret ?_ | refine LWp.skip ?_ | refine LOps.valA ?_ | refine LOps.outA ?_ | refine LOps.whenA ?_ | refine LOps.pickA ?_ | refine LOps.storeA ?_)
    refine LWp.drawL [0, 1, 2, 3, 4, 5, 6, 7, 8] (by rw [hP]; rfl) rfl ?_
    repeat (first | refine LRl.val (fun _ _ => LVal.to (LVal.sliceR (l := i + 1) (h := l.length + 1) hD rfl rfl rfl rfl rfl rfl rfl (by omega) hc) (r' := .one (rsl r ((i + 1) * 2) (l.length - i) (c - (i + 1)))) (by rw [← a2, show l.length - i = l.length + 1 - (i + 1) by omega]; rfl)) rfl rfl rfl ?_ | refine LRl.val (fun _ _ => LVal.to (LVal.sliceR (l := i) (h := l.length + 1) hD rfl rfl rfl rfl rfl rfl rfl (by omega) hc) (r' := .one (rsl r (i * 2) (l.length + 1 - i) (c - i))) (by rw [← a1]; rfl)) rfl rfl rfl ?_ | refine LRl.nil ?_ | refine LRl.valA ?_ | refine LRl.outA ?_ | refine LRl.whenA ?_ | refine LRl.pickA ?_)
    have hsrc := SrcL.raw (S := S) (z := 2) r (i * 2) (l.length + 1 - i) (c - i) _ hb (by rw [hlen, ← Nat.add_mul]; exact Nat.mul_le_mul_right _ (by omega))
    refine LRl.act (LDo.copyR hD rfl rfl rfl rfl rfl rfl rfl hb (by
      show (i + 1) * 2 + (l.length - i) * 2 ≤ _
      rw [hlen, ← Nat.add_mul]; exact Nat.mul_le_mul_right _ (by omega)) hsrc) rfl rfl rfl rfl (fun _ _ _ => .inr rfl) ?_
    rintro _ _ ⟨rfl, rfl⟩
    have e5 : (((cellsR f l ++ rest).drop (i * 2)).take ((l.length + 1 - i) * 2)).take (Nat.min (l.length + 1 - i) (l.length - i) * 2) = cellsR f (l.drop i) := by
      rw [show Nat.min (l.length + 1 - i) (l.length - i) = l.length - i from Nat.min_eq_right (by omega), List.take_take, Nat.min_eq_left (Nat.mul_le_mul_right _ (by omega)), cellsR_part hz l rest hi]
    rw [show ti50.size = 2 from rfl, e5]
    repeat (first | refine LRl.nil ?_ | refine LRl.valA ?_ | refine LRl.outA ?_ | refine LRl.whenA ?_ | refine LRl.pickA ?_)
    have hfit : (i + 1) * 2 + (cellsR f (l.drop i)).length ≤ (cellsR f l ++ rest).length := by
      rw [hlen, cellsR_length hz, List.length_drop, ← Nat.add_mul]; exact Nat.mul_le_mul_right _ (by omega)
    have k4 := box_set S r (splice (cellsR f l ++ rest) ((i + 1) * 2) (cellsR f (l.drop i)))
    have k5 := (box_set_ne S (splice (cellsR f l ++ rest) ((i + 1) * 2) (cellsR f (l.drop i))) (fun e => hrb e.symm)).trans hv
    repeat (first | refine LOps.valH (LVal.to (LVal.sliceR (l := i) (h := l.length + 1) hD rfl rfl rfl rfl rfl rfl rfl (by omega) hc) (r' := .one (rsl r (i * 2) (l.length + 1 - i) (c - i))) (by rw [← a1]; rfl)) ?_ | refine LOps.nil ?_ | refine andThen_normal ?_ | refine andThen_exit ?_ | refine andThen_ret ?_ | refine inBlock_normal ?_ | refine inBlock_ret ?_ | refine inBlock_here ?_ | refine inBlock_out rfl ?_ | refine LWp.seq ?_ | refine LWp.region ?_ | refine LWp.block ?_ | refine LWp.exit ?_ | refine LWp.ret ?_ | refine LWp.skip ?_ | refine LOps.valA ?_ | refine LOps.outA ?_ | refine LOps.whenA ?_ | refine LOps.pickA ?_ | refine LOps.storeA ?_)
    refine LOps.do (LDo.copyR (m := 1) (l := f x) hD rfl rfl rfl rfl rfl rfl rfl k4 (by
      show i * 2 + (l.length + 1 - i) * 2 ≤ _
      rw [splice_length hfit, hlen, ← Nat.add_mul]; exact Nat.mul_le_mul_right _ (by omega)) (.all k5 (hz x))) rfl rfl rfl ?_
    rintro _ _ ⟨rfl, rfl⟩
    have e4 : (f x).take (Nat.min 1 (l.length + 1 - i) * 2) = f x := by
      rw [show Nat.min 1 (l.length + 1 - i) = 1 from Nat.min_eq_left (by omega)]
      exact List.take_of_length_le (by rw [hz]; decide)
    rw [show ti50.size = 2 from rfl, e4, room_ins hz hlt hzr]
    repeat (first | refine LOps.nil ?_ | refine andThen_normal ?_ | refine andThen_exit ?_ | refine andThen_ret ?_ | refine inBlock_normal ?_ | refine inBlock_ret ?_ | refine inBlock_here ?_ | refine inBlock_out rfl ?_ | refine LWp.seq ?_ | refine LWp.region ?_ | refine LWp.block ?_ | refine LWp.exit ?_ | refine LWp.ret ?_ | refine LWp.skip ?_ | refine LOps.valA ?_ | refine LOps.outA ?_ | refine LOps.whenA ?_ | refine LOps.pickA ?_ | refine LOps.storeA ?_)
    refine ⟨_, LRes.one rfl, _, rfl, ?_, Mv.set2⟩
    have hfin := SlAt.row (f := f) (z := 2) (S := (S.setBox r (splice (cellsR f l ++ rest) ((i + 1) * 2) (cellsR f (l.drop i)))).setBox r (cellsR f (insL l i x) ++ rest.drop 2)) r c (insL l i x) (rest.drop 2) ⟨box_set _ _ _, by
      rw [List.length_drop, hroom, insL_length l hi, show c - l.length = (c - (l.length + 1)) + 1 by omega, Nat.add_mul, Nat.one_mul, Nat.add_sub_cancel], by rw [insL_length l hi]; exact hc⟩
    rw [insL_length l hi] at hfin
    exact hfin

set_option maxHeartbeats 4000000 in
theorem delP_L {G : Ctx} (hP : G.P = Try.prog) {α : Type} {f : α → List LV} (hz : ∀ x, (f x).length = 2) (l : List α) {i : Nat} (hi : i < l.length) (X : LV) (S : LS) (hX : SlAt f 2 S X l) (hsm : l.length ≤ 1000000) :
    LCalls G 40 [.one X, .one (iv (i : Nat)), .one (iv ((i : Nat) + 1))] (fun R S' => ∃ X', R = .one X' ∧ SlAt f 2 S' X' (delL' l i) ∧ Mv S X S' X') S := by
  have hD : TabOK G.P D := by rw [hP]; exact hD0
  cases hX with
  | nil => simp at hi
  | row r c _ rest hr =>
    have hlen := hr.len hz
    have hcap := hr.cap
    have hroom := hr.room
    have hb := hr.box
    refine LCalls.enter (fn := Try.f40) (by rw [hP]; exact Try.func40) rfl rfl ?_
    repeat (first | refine LOps.valH (LVal.lenR hD rfl rfl rfl rfl) ?_ | refine LOps.valH (LVal.slice3R (l := i) (h := i + 1) (m := l.length) hD rfl rfl rfl rfl rfl rfl rfl rfl rfl (by omega) (by omega) hcap) ?_ | refine LOps.nil ?_ | refine andThen_normal ?_ | refine andThen_exit ?_ | refine andThen_ret ?_ | refine inBlock_normal ?_ | refine inBlock_ret ?_ | refine inBlock_here ?_ | refine inBlock_out rfl ?_ | refine LWp.seq ?_ | refine LWp.region ?_ | refine LWp.block ?_ | refine LWp.exit ?_ | refine LWp.ret ?_ | refine LWp.skip ?_ | refine LOps.valA ?_ | refine LOps.outA ?_ | refine LOps.whenA ?_ | refine LOps.pickA ?_ | refine LOps.storeA ?_)
    refine LWp.cond rfl (fun h => ?_) (fun h => ?_)
    · have h : (((i : Nat) : Int) == (i : Int) + 1) = true := h
      rw [beq_iff_eq] at h
      omega
    clear h
    repeat (first | refine LOps.valH (LVal.lenR hD rfl rfl rfl rfl) ?_ | refine LOps.nil ?_ | refine andThen_normal ?_ | refine andThen_exit ?_ | refine andThen_ret ?_ | refine inBlock_normal ?_ | refine inBlock_ret ?_ | refine inBlock_here ?_ | refine inBlock_out rfl ?_ | refine LWp.seq ?_ | refine LWp.region ?_ | refine LWp.block ?_ | refine LWp.exit ?_ | refine LWp.ret ?_ | refine LWp.skip ?_ | refine LOps.valA ?_ | refine LOps.outA ?_ | refine LOps.whenA ?_ | refine LOps.pickA ?_ | refine LOps.storeA ?_)
    refine LWp.drawL [0, 1, 2, 3, 4, 5, 6, 7] (by rw [hP]; rfl) rfl ?_
    repeat (first | refine LRl.val (fun _ _ => LVal.to (LVal.sliceR (l := 0) (h := i) hD rfl rfl rfl rfl rfl rfl rfl (Nat.zero_le _) (by omega)) (r' := .one (rsl r 0 i c)) (by rw [partOff_00]; rfl)) rfl rfl rfl ?_ | refine LRl.val (fun _ _ => LVal.sliceR (l := i + 1) (h := l.length) hD rfl rfl rfl rfl rfl rfl rfl hi hcap) rfl rfl rfl ?_ | refine LRl.nil ?_ | refine LRl.valA ?_ | refine LRl.outA ?_ | refine LRl.whenA ?_ | refine LRl.pickA ?_)
    refine LRl.act (LDo.appendRoomR hD rfl rfl rfl rfl rfl rfl rfl hb (by show 0 + c * 2 ≤ _; rw [hlen]; omega) (hr.src hz (k := i + 1) hi (c - (i + 1))) (by omega)) rfl rfl rfl rfl (fun _ _ _ => .inr rfl) ?_
    rintro _ _ ⟨rfl, rfl⟩
    obtain ⟨Z, hZ, hsp⟩ := del_cells (rest := rest) hz hi
    rw [show 0 + i * ti50.size = i * 2 from Nat.zero_add _, hsp, show i + (l.length - (i + 1)) = l.length - 1 by omega]
    repeat (first | refine LRl.nil ?_ | refine LRl.valA ?_ | refine LRl.outA ?_ | refine LRl.whenA ?_ | refine LRl.pickA ?_)
    have hn1 : 1 ≤ l.length := by omega
    have k4 := box_set S r (cellsR f (delL' l i) ++ Z ++ rest)
    have a1 : partOff 0 (l.length - 1) c 2 = (l.length - 1) * 2 := partOff_0 _ _ _ (by omega)
    repeat (first | refine LOps.valH (LVal.lenR hD rfl rfl rfl rfl) ?_ | refine LOps.valH (LVal.to (LVal.sliceR (l := l.length - 1) (h := l.length) hD rfl rfl rfl rfl rfl rfl rfl (by omega) hcap) (r' := .one (rsl r ((l.length - 1) * 2) 1 (c - (l.length - 1)))) (by rw [← a1, show l.length - (l.length - 1) = 1 by omega]; rfl)) ?_ | refine LOps.nil ?_ | refine andThen_normal ?_ | refine andThen_exit ?_ | refine andThen_ret ?_ | refine inBlock_normal ?_ | refine inBlock_ret ?_ | refine inBlock_here ?_ | refine inBlock_out rfl ?_ | refine LWp.seq ?_ | refine LWp.region ?_ | refine LWp.block ?_ | refine LWp.exit ?_ | refine LWp.ret ?_ | refine LWp.skip ?_ | refine LOps.valA ?_ | refine LOps.outA ?_ | refine LOps.whenA ?_ | refine LOps.pickA ?_ | refine LOps.storeA ?_)
    have hL : (cellsR f (delL' l i) ++ Z ++ rest).length = c * 2 := by
      rw [List.length_append, List.length_append, hZ, cellsR_length hz, delL'_length l hi, hroom, ← Nat.add_one_mul, ← Nat.add_mul]
      congr 1; omega
    refine LOps.do0 (LDo.clearR hD rfl rfl rfl rfl rfl rfl rfl k4 (by
      show (l.length - 1) * 2 + 1 * 2 ≤ _
      rw [hL, ← Nat.add_mul]; exact Nat.mul_le_mul_right _ (by omega))) rfl rfl ?_
    rintro _ _ ⟨rfl, rfl⟩
    have hzl : (zrow ti50 1).length = 2 := zrow_length _ _
    rw [splice_at (by rw [cellsR_length hz, delL'_length l hi]) (by rw [hzl, hZ])]
    repeat (first | refine LOps.nil ?_ | refine andThen_normal ?_ | refine andThen_exit ?_ | refine andThen_ret ?_ | refine inBlock_normal ?_ | refine inBlock_ret ?_ | refine inBlock_here ?_ | refine inBlock_out rfl ?_ | refine LWp.seq ?_ | refine LWp.region ?_ | refine LWp.block ?_ | refine LWp.exit ?_ | refine LWp.ret ?_ | refine LWp.skip ?_ | refine LOps.valA ?_ | refine LOps.outA ?_ | refine LOps.whenA ?_ | refine LOps.pickA ?_ | refine LOps.storeA ?_)
    refine ⟨_, LRes.one rfl, _, rfl, ?_, Mv.set2⟩
    have hfin := SlAt.row (f := f) (z := 2) (S := (S.setBox r (cellsR f (delL' l i) ++ Z ++ rest)).setBox r (cellsR f (delL' l i) ++ zrow ti50 1 ++ rest)) r c (delL' l i) (zrow ti50 1 ++ rest) ⟨by rw [box_set, List.append_assoc], by
      rw [List.length_append, hzl, hroom, delL'_length l hi, show c - (l.length - 1) = (c - l.length) + 1 by omega, Nat.add_mul, Nat.one_mul, Nat.add_comm], by rw [delL'_length l hi]; omega⟩
    rw [delL'_length l hi] at hfin
    exact hfin

set_option maxHeartbeats 4000000 in
/-- A copy of a slice that leads into a box. -/
theorem cloneP_L {G : Ctx} (hP : G.P = Try.prog) {α : Type} {f : α → List LV} (hz : ∀ x, (f x).length = 2) (l : List α) (X : LV) (S : LS) (hX : SlAt f 2 S X l) (hsm : l.length ≤ 1000000) :
    LCalls G 27 [.one X] (fun R S' => ∃ X', R = .one X' ∧ SlAt f 2 S' X' l ∧ S.le S' ∧ ∀ b, blockOf X' = some b → S.box b = none) S := by
  have hD : TabOK G.P D := by rw [hP]; exact hD0
  refine LCalls.enter (fn := Try.f27) (by rw [hP]; exact Try.func27) rfl rfl ?_
  cases hX with
  | nil =>
    repeat (first | refine LOps.nil ?_ | refine andThen_normal ?_ | refine andThen_exit ?_ | refine andThen_ret ?_ | refine inBlock_normal ?_ | refine inBlock_ret ?_ | refine inBlock_here ?_ | refine inBlock_out rfl ?_ | refine LWp.seq ?_ | refine LWp.region ?_ | refine LWp.block ?_ | refine LWp.exit ?_ | refine LWp.ret ?_ | refine LWp.skip ?_ | refine LOps.valA ?_ | refine LOps.outA ?_ | refine LOps.whenA ?_ | refine LOps.pickA ?_ | refine LOps.storeA ?_)
    refine LOps.do (LDo.eqNil hD rfl rfl rfl rfl) rfl rfl rfl ?_
    rintro _ _ ⟨q, rfl, rfl, _⟩
    repeat (first | refine LOps.nil ?_ | refine andThen_normal ?_ | refine andThen_exit ?_ | refine andThen_ret ?_ | refine inBlock_normal ?_ | refine inBlock_ret ?_ | refine inBlock_here ?_ | refine inBlock_out rfl ?_ | refine LWp.seq ?_ | refine LWp.region ?_ | refine LWp.block ?_ | refine LWp.exit ?_ | refine LWp.ret ?_ | refine LWp.skip ?_ | refine LOps.valA ?_ | refine LOps.outA ?_ | refine LOps.whenA ?_ | refine LOps.pickA ?_ | refine LOps.storeA ?_)
    refine LWp.cond rfl (fun h => ?_) (fun h => ?_)
    · repeat (first | refine LOps.nil ?_ | refine andThen_normal ?_ | refine andThen_exit ?_ | refine andThen_ret ?_ | refine inBlock_normal ?_ | refine inBlock_ret ?_ | refine inBlock_here ?_ | refine inBlock_out rfl ?_ | refine LWp.seq ?_ | refine LWp.region ?_ | refine LWp.block ?_ | refine LWp.exit ?_ | refine LWp.ret ?_ | refine LWp.skip ?_ | refine LOps.valA ?_ | refine LOps.outA ?_ | refine LOps.whenA ?_ | refine LOps.pickA ?_ | refine LOps.storeA ?_)
      exact ⟨_, LRes.one rfl, _, rfl, .nil, .refl _, fun b hb => by cases hb⟩
    repeat (first | refine LOps.nil ?_ | refine andThen_normal ?_ | refine andThen_exit ?_ | refine andThen_ret ?_ | refine inBlock_normal ?_ | refine inBlock_ret ?_ | refine inBlock_here ?_ | refine inBlock_out rfl ?_ | refine LWp.seq ?_ | refine LWp.region ?_ | refine LWp.block ?_ | refine LWp.exit ?_ | refine LWp.ret ?_ | refine LWp.skip ?_ | refine LOps.valA ?_ | refine LOps.outA ?_ | refine LOps.whenA ?_ | refine LOps.pickA ?_ | refine LOps.storeA ?_)
    refine LOps.do (LDo.buildSliceR (n := 0) (ps := []) (lp := []) (l := []) hD rfl rfl rfl rfl rfl rfl rfl rfl rfl rfl rfl) rfl rfl rfl ?_
    rintro _ _ ⟨b1, hb1, rfl, rfl⟩
    repeat (first | refine LOps.nil ?_ | refine andThen_normal ?_ | refine andThen_exit ?_ | refine andThen_ret ?_ | refine inBlock_normal ?_ | refine inBlock_ret ?_ | refine inBlock_here ?_ | refine inBlock_out rfl ?_ | refine LWp.seq ?_ | refine LWp.region ?_ | refine LWp.block ?_ | refine LWp.exit ?_ | refine LWp.ret ?_ | refine LWp.skip ?_ | refine LOps.valA ?_ | refine LOps.outA ?_ | refine LOps.whenA ?_ | refine LOps.pickA ?_ | refine LOps.storeA ?_)
    refine LOps.do (LDo.appendRoomR (m := 0) (l := []) hD rfl rfl rfl rfl rfl rfl rfl (box_new _ _ _) (by decide) (SrcL.sl .nil [] (by simp)) (by decide)) rfl rfl rfl ?_
    rintro _ _ ⟨rfl, rfl⟩
    repeat (first | refine LOps.nil ?_ | refine andThen_normal ?_ | refine andThen_exit ?_ | refine andThen_ret ?_ | refine inBlock_normal ?_ | refine inBlock_ret ?_ | refine inBlock_here ?_ | refine inBlock_out rfl ?_ | refine LWp.seq ?_ | refine LWp.region ?_ | refine LWp.block ?_ | refine LWp.exit ?_ | refine LWp.ret ?_ | refine LWp.skip ?_ | refine LOps.valA ?_ | refine LOps.outA ?_ | refine LOps.whenA ?_ | refine LOps.pickA ?_ | refine LOps.storeA ?_)
    refine ⟨_, LRes.one rfl, _, rfl, SlAt.row b1 0 [] [] ⟨box_set _ _ _, rfl, Nat.le_refl _⟩, (LS.le.newBox (.refl _) hb1 _).setBox hb1.box _, fun b hb => ?_⟩
    obtain rfl : b1 = b := by simpa [blockOf] using hb
    exact hb1.box
  | row r c _ rest hr =>
    repeat (first | refine LOps.valH (LVal.eqNilR hD rfl rfl rfl rfl) ?_ | refine LWp.condF rfl ?_ | refine LOps.nil ?_ | refine andThen_normal ?_ | refine andThen_exit ?_ | refine andThen_ret ?_ | refine inBlock_normal ?_ | refine inBlock_ret ?_ | refine inBlock_here ?_ | refine inBlock_out rfl ?_ | refine LWp.seq ?_ | refine LWp.region ?_ | refine LWp.block ?_ | refine LWp.exit ?_ | refine LWp.ret ?_ | refine LWp.skip ?_ | refine LOps.valA ?_ | refine LOps.outA ?_ | refine LOps.whenA ?_ | refine LOps.pickA ?_ | refine LOps.storeA ?_)
    refine LOps.do (LDo.buildSliceR (n := 0) (ps := []) (lp := []) (l := []) hD rfl rfl rfl rfl rfl rfl rfl rfl rfl rfl rfl) rfl rfl rfl ?_
    rintro _ _ ⟨b1, hb1, rfl, rfl⟩
    have hle := LS.le.newBox (.refl S) hb1 ([] : List LV)
    have hsrc := ((SlAt.row r c l rest hr).le hle).src hz
    repeat (first | refine LOps.nil ?_ | refine andThen_normal ?_ | refine andThen_exit ?_ | refine andThen_ret ?_ | refine inBlock_normal ?_ | refine inBlock_ret ?_ | refine inBlock_here ?_ | refine inBlock_out rfl ?_ | refine LWp.seq ?_ | refine LWp.region ?_ | refine LWp.block ?_ | refine LWp.exit ?_ | refine LWp.ret ?_ | refine LWp.skip ?_ | refine LOps.valA ?_ | refine LOps.outA ?_ | refine LOps.whenA ?_ | refine LOps.pickA ?_ | refine LOps.storeA ?_)
    by_cases h0 : l = []
    · subst h0
      refine LOps.do (LDo.appendRoomR (m := 0) (l := []) hD rfl rfl rfl rfl rfl rfl rfl (box_new _ _ _) (by decide) hsrc (by decide)) rfl rfl rfl ?_
      rintro _ _ ⟨rfl, rfl⟩
      repeat (first | refine LOps.nil ?_ | refine andThen_normal ?_ | refine andThen_exit ?_ | refine andThen_ret ?_ | refine inBlock_normal ?_ | refine inBlock_ret ?_ | refine inBlock_here ?_ | refine inBlock_out rfl ?_ | refine LWp.seq ?_ | refine LWp.region ?_ | refine LWp.block ?_ | refine LWp.exit ?_ | refine LWp.ret ?_ | refine LWp.skip ?_ | refine LOps.valA ?_ | refine LOps.outA ?_ | refine LOps.whenA ?_ | refine LOps.pickA ?_ | refine LOps.storeA ?_)
      refine ⟨_, LRes.one rfl, _, rfl, SlAt.row b1 0 [] [] ⟨box_set _ _ _, rfl, Nat.le_refl _⟩, hle.setBox hb1.box _, fun b hb => ?_⟩
      obtain rfl : b1 = b := by simpa [blockOf] using hb
      exact hb1.box
    have hpos : 0 < l.length := List.length_pos_iff.2 h0
    refine LOps.do (LDo.appendGrowR (n := 0) (c := 0) (m := l.length) (l := []) hD rfl rfl rfl rfl rfl rfl rfl rfl rfl (.inl ⟨_, rfl⟩) (.all (box_new _ _ _) rfl) hsrc (by omega) (by omega)) rfl rfl rfl ?_
    rintro _ _ ⟨b', c', hb', hc', rfl, rfl⟩
    repeat (first | refine LOps.nil ?_ | refine andThen_normal ?_ | refine andThen_exit ?_ | refine andThen_ret ?_ | refine inBlock_normal ?_ | refine inBlock_ret ?_ | refine inBlock_here ?_ | refine inBlock_out rfl ?_ | refine LWp.seq ?_ | refine LWp.region ?_ | refine LWp.block ?_ | refine LWp.exit ?_ | refine LWp.ret ?_ | refine LWp.skip ?_ | refine LOps.valA ?_ | refine LOps.outA ?_ | refine LOps.whenA ?_ | refine LOps.pickA ?_ | refine LOps.storeA ?_)
    refine ⟨_, LRes.one rfl, _, rfl, ?_, hle.newBox hb' _, fun b hb => ?_⟩
    · rw [Nat.zero_add] at hc' ⊢
      exact SlAt.row b' c' l (zrow ti50 (c' - l.length)) ⟨box_new _ _ _, zrow_length _ _, hc'⟩
    · obtain rfl : b' = b := by simpa [blockOf] using hb
      exact hle.none hb'
end Go.Proofs.Ytndcdmmmfplbbaa.LF
