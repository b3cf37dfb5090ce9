/- The document's Remove over the frame. -/
import Derived.Test.YtffeegpjnibdnaaLPc
set_option linter.unusedVariables false
set_option linter.unusedSimpArgs false
namespace Go.Proofs.Ytffeegpjnibdnaa.LF
open Go.RowKit

def remR (p : Nat) (i : Int) : TV := if rt (slots p) = true ∧ 0 ≤ i ∧ i < (p % 16 : Nat) then yesR (remW p i.toNat) (nib p i.toNat) else noR p
theorem remR_no {p : Nat} {i : Int} (h : ¬ (rt (slots p) = true ∧ 0 ≤ i ∧ i < (p % 16 : Nat))) : noR p = remR p i := by unfold remR; rw [if_neg h]

theorem remW_parts (p i : Nat) (hi : i < p % 16) :
    wd (p % 16 - 1) (((slots p).take (p % 16)).take i ++ ((slots p).take (p % 16)).drop (i + 1) ++ nib p i :: (slots p).drop (p % 16)) = remW p i := by
  unfold remW mv ers ins
  congr 1
  have hl := slots_length p
  have hg : (slots p).getD i 0 = nib p i := by
    rw [List.getD_eq_getElem?_getD, slots_get p i (by omega)]; rfl
  rw [hg]
  obtain ⟨m, hm⟩ : ∃ m, m = p % 16 - 1 - i := ⟨_, rfl⟩
  have e1 : p % 16 - 1 = i + m := by omega
  have e2 : p % 16 = i + m + 1 := by omega
  have e0 : i + m + 1 ≤ 16 := by omega
  rw [e1, e2]
  generalize slots p = L at hl
  have hi' : (L.take i).length = i := by rw [List.length_take]; omega
  have r1 : (L.take i ++ L.drop (i + 1)).take (i + m) = L.take i ++ (L.drop (i + 1)).take m := by
    rw [List.take_append, hi', List.take_of_length_le (by omega), show i + m - i = m by omega]
  have r2 : (L.take i ++ L.drop (i + 1)).drop (i + m) = L.drop (i + m + 1) := by
    rw [List.drop_append, hi', List.drop_eq_nil_of_le (by omega), List.drop_drop, show i + 1 + (i + m - i) = i + m + 1 by omega]; rfl
  have r3 : (L.take (i + m + 1)).take i = L.take i := by rw [List.take_take, Nat.min_eq_left (by omega)]
  have r4 : (L.take (i + m + 1)).drop (i + 1) = (L.drop (i + 1)).take m := by rw [List.drop_take, show i + m + 1 - (i + 1) = m by omega]
  rw [r1, r2, r3, r4]

set_option maxHeartbeats 1000000 in
theorem refRem_L {G : Ctx} (hP : G.P = Try.prog) (p : Nat) (i : Int) (hp : p < 18446744073709551616) (S : LS) :
    LCalls G 20 [.one (.v (.int .u64 p)), .one (iv i)] (fun r S' => r = remR p i ∧ S.le S') S := by
  have hD : TabOK G.P D := by rw [hP]; exact hD0
  have hm : G.P.follows .mixedOrders = true := by rw [hP]; rfl
  have hof := of_F hP p hp
  refine LCalls.enter (fn := Try.f20) (by rw [hP]; exact Try.func20) rfl rfl ?_
  by_cases hr : Rt (slots p)
  · rw [ofR_yes hr] at hof
    obtain ⟨n, hn⟩ : ∃ n, n = p % 16 := ⟨_, rfl⟩
    have hn16 : n < 16 := by omega
    have hlen := slots_length p
    rw [← hn] at hof
    obtain ⟨U, hU⟩ : ∃ U, U = (slots p).take n := ⟨_, rfl⟩
    obtain ⟨F, hF⟩ : ∃ F, F = (slots p).drop n := ⟨_, rfl⟩
    have hUl : U.length = min n 15 := by rw [hU, List.length_take, hlen]
    have hFl : F.length = 15 - n := by rw [hF, List.length_drop, hlen]
    rw [← hU, ← hF] at hof
    repeat (first
      | refine LOps.valG (LVal.call rfl rfl (by rw [hP]; exact Try.func18) rfl (by decide) hof) rfl rfl rfl ?_
      | refine LOps.nil ?_
      | refine andThen_normal ?_
      | refine andThen_exit ?_
      | refine andThen_ret ?_
      | refine inBlock_normal ?_
      | refine inBlock_ret ?_
      | refine inBlock_here ?_
      | refine inBlock_out rfl ?_
      | refine LWp.seq ?_
      | refine LWp.region ?_
      | refine LWp.block ?_
      | refine LWp.exit ?_
      | refine LWp.ret ?_
      | refine LWp.skip ?_
      | refine LOps.val (LVal.move1 rfl rfl) rfl rfl rfl ?_
      | refine LOps.val (LVal.assign1 rfl rfl) rfl rfl rfl ?_
      | refine LOps.val (LVal.len hD rfl rfl rfl rfl) rfl rfl rfl ?_
      | refine LOps.val (LVal.lenStr hD rfl rfl rfl rfl) rfl rfl rfl ?_
      | refine LOps.val (LVal.add64 rfl rfl rfl (by omega)) rfl rfl rfl ?_
      | refine LOps.val (LVal.sub64 rfl rfl rfl (by omega)) rfl rfl rfl ?_
      | refine LOps.val (LVal.addU64 rfl rfl rfl (by omega)) rfl rfl rfl ?_
      | refine LOps.val (LVal.subU64 rfl rfl rfl (by omega)) rfl rfl rfl ?_
      | refine LOps.val (LVal.mulU64 rfl rfl rfl (by omega)) rfl rfl rfl ?_
      | refine LOps.val (LVal.remI rfl rfl rfl (by omega)) rfl rfl rfl ?_
      | refine LOps.val (LVal.quoU64 rfl rfl rfl (by omega)) rfl rfl rfl ?_
      | refine LOps.val (LVal.quo64 rfl rfl rfl (by omega)) rfl rfl rfl ?_
      | refine LOps.val (LVal.mul64 rfl rfl rfl (by omega)) rfl rfl rfl ?_
      | refine LOps.val (LVal.conv64 hD rfl rfl rfl rfl rfl (by omega)) rfl rfl rfl ?_
      | refine LOps.val (LVal.convU64 hD rfl rfl rfl rfl rfl (by omega)) rfl rfl rfl ?_
      | refine LOps.val (LVal.neqSame hD rfl rfl rfl) rfl rfl rfl ?_
      | refine LOps.val (LVal.neqSameB hD rfl rfl rfl rfl rfl) rfl rfl rfl ?_
      | refine LOps.val (LVal.binOp hD rfl rfl rfl rfl) rfl rfl rfl ?_
      | refine LOps.val (LVal.unOp rfl rfl rfl) rfl rfl rfl ?_
      | refine LOps.val (LVal.pick rfl rfl) rfl rfl rfl ?_
      | refine LOps.val (LVal.extract rfl rfl rfl) rfl rfl rfl ?_
      | refine LOps.val (LVal.convInt hD rfl rfl rfl rfl rfl) rfl rfl rfl ?_
      | refine LOps.val (LVal.fieldAddr hD rfl rfl rfl rfl rfl rfl (by decide)) rfl rfl rfl ?_
      | refine LOps.val (LVal.load hD rfl rfl (by first | assumption | exact box_new _ _ _ | exact box_set _ _ _ | (simp only [box_new, box_set, box_row, box_new_ne, box_set_ne, ne_eq, not_false_eq_true, *]; done) | (simp only [box_new, box_set, box_row, box_new_ne, box_set_ne, ne_eq, not_false_eq_true, *]; rfl)) rfl rfl) rfl rfl rfl ?_
      | refine LOps.val (LVal.indexMap hD rfl rfl rfl rfl rfl rfl (by first | assumption | omega) rfl) rfl rfl rfl ?_
      | refine LOps.val (LVal.loadRo hD rfl rfl rfl rfl) rfl rfl rfl ?_
      | refine LOps.val (LVal.fieldAddrRo hD rfl rfl rfl rfl rfl rfl (by decide)) rfl rfl rfl ?_
      | refine LOps.val (LVal.field hD rfl rfl rfl rfl rfl rfl rfl) rfl rfl rfl ?_
      | refine LOps.val (LVal.buildSlice1 hD rfl rfl rfl rfl rfl rfl rfl rfl rfl rfl) rfl rfl rfl ?_
      | refine LOps.val (LVal.build hD rfl rfl rfl rfl rfl rfl rfl) rfl rfl rfl ?_
      | refine LOps.val (LVal.buildSlice hD rfl rfl rfl rfl rfl rfl rfl rfl rfl rfl) rfl rfl rfl ?_
      | refine LOps.val (LVal.takeMap hD rfl rfl rfl rfl rfl rfl (by first | assumption | omega) rfl (fun _ _ => rfl)) rfl rfl rfl ?_
      | refine LOps.val (LVal.dropMap hD rfl rfl rfl rfl rfl rfl (by first | assumption | omega) rfl (fun _ _ => rfl)) rfl rfl rfl ?_
      | refine LOps.val (LVal.cutMap hD rfl rfl rfl rfl rfl rfl rfl (by first | assumption | omega) (by first | assumption | omega) rfl (fun _ _ => rfl)) rfl rfl rfl ?_
      | refine LOps.val (LVal.move2 rfl rfl) rfl rfl rfl ?_
      | refine LOps.val (LVal.assign2 rfl rfl) rfl rfl rfl ?_
      | refine LOps.val (LVal.move (.inl rfl)) rfl rfl rfl ?_
      | refine LOps.val (LVal.move (.inr rfl)) rfl rfl rfl ?_
      | refine LOps.out rfl rfl rfl ?_
      | refine LOps.valG (LVal.move1 rfl rfl) rfl rfl rfl ?_
      | refine LOps.valG (LVal.assign1 rfl rfl) rfl rfl rfl ?_
      | refine LOps.valG (LVal.len hD rfl rfl rfl rfl) rfl rfl rfl ?_
      | refine LOps.valG (LVal.lenStr hD rfl rfl rfl rfl) rfl rfl rfl ?_
      | refine LOps.valG (LVal.add64 rfl rfl rfl (by omega)) rfl rfl rfl ?_
      | refine LOps.valG (LVal.sub64 rfl rfl rfl (by omega)) rfl rfl rfl ?_
      | refine LOps.valG (LVal.addU64 rfl rfl rfl (by omega)) rfl rfl rfl ?_
      | refine LOps.valG (LVal.subU64 rfl rfl rfl (by omega)) rfl rfl rfl ?_
      | refine LOps.valG (LVal.mulU64 rfl rfl rfl (by omega)) rfl rfl rfl ?_
      | refine LOps.valG (LVal.remI rfl rfl rfl (by omega)) rfl rfl rfl ?_
      | refine LOps.valG (LVal.quoU64 rfl rfl rfl (by omega)) rfl rfl rfl ?_
      | refine LOps.valG (LVal.quo64 rfl rfl rfl (by omega)) rfl rfl rfl ?_
      | refine LOps.valG (LVal.mul64 rfl rfl rfl (by omega)) rfl rfl rfl ?_
      | refine LOps.valG (LVal.conv64 hD rfl rfl rfl rfl rfl (by omega)) rfl rfl rfl ?_
      | refine LOps.valG (LVal.convU64 hD rfl rfl rfl rfl rfl (by omega)) rfl rfl rfl ?_
      | refine LOps.valG (LVal.neqSame hD rfl rfl rfl) rfl rfl rfl ?_
      | refine LOps.valG (LVal.neqSameB hD rfl rfl rfl rfl rfl) rfl rfl rfl ?_
      | refine LOps.valG (LVal.binOp hD rfl rfl rfl rfl) rfl rfl rfl ?_
      | refine LOps.valG (LVal.unOp rfl rfl rfl) rfl rfl rfl ?_
      | refine LOps.valG (LVal.pick rfl rfl) rfl rfl rfl ?_
      | refine LOps.valG (LVal.extract rfl rfl rfl) rfl rfl rfl ?_
      | refine LOps.valG (LVal.convInt hD rfl rfl rfl rfl rfl) rfl rfl rfl ?_
      | refine LOps.valG (LVal.fieldAddr hD rfl rfl rfl rfl rfl rfl (by decide)) rfl rfl rfl ?_
      | refine LOps.valG (LVal.load hD rfl rfl (by first | assumption | exact box_new _ _ _ | exact box_set _ _ _ | (simp only [box_new, box_set, box_row, box_new_ne, box_set_ne, ne_eq, not_false_eq_true, *]; done) | (simp only [box_new, box_set, box_row, box_new_ne, box_set_ne, ne_eq, not_false_eq_true, *]; rfl)) rfl rfl) rfl rfl rfl ?_
      | refine LOps.valG (LVal.indexMap hD rfl rfl rfl rfl rfl rfl (by first | assumption | omega) rfl) rfl rfl rfl ?_
      | refine LOps.valG (LVal.loadRo hD rfl rfl rfl rfl) rfl rfl rfl ?_
      | refine LOps.valG (LVal.fieldAddrRo hD rfl rfl rfl rfl rfl rfl (by decide)) rfl rfl rfl ?_
      | refine LOps.valG (LVal.field hD rfl rfl rfl rfl rfl rfl rfl) rfl rfl rfl ?_
      | refine LOps.valG (LVal.buildSlice1 hD rfl rfl rfl rfl rfl rfl rfl rfl rfl rfl) rfl rfl rfl ?_
      | refine LOps.valG (LVal.build hD rfl rfl rfl rfl rfl rfl rfl) rfl rfl rfl ?_
      | refine LOps.valG (LVal.buildSlice hD rfl rfl rfl rfl rfl rfl rfl rfl rfl rfl) rfl rfl rfl ?_
      | refine LOps.valG (LVal.takeMap hD rfl rfl rfl rfl rfl rfl (by first | assumption | omega) rfl (fun _ _ => rfl)) rfl rfl rfl ?_
      | refine LOps.valG (LVal.dropMap hD rfl rfl rfl rfl rfl rfl (by first | assumption | omega) rfl (fun _ _ => rfl)) rfl rfl rfl ?_
      | refine LOps.valG (LVal.cutMap hD rfl rfl rfl rfl rfl rfl rfl (by first | assumption | omega) (by first | assumption | omega) rfl (fun _ _ => rfl)) rfl rfl rfl ?_
      | refine LOps.valG (LVal.move2 rfl rfl) rfl rfl rfl ?_
      | refine LOps.valG (LVal.assign2 rfl rfl) rfl rfl rfl ?_
      | refine LOps.valG (LVal.move (.inl rfl)) rfl rfl rfl ?_
      | refine LOps.valG (LVal.move (.inr rfl)) rfl rfl rfl ?_
      | (refine LOps.do0 (LDo.store hD rfl rfl (by first | assumption | exact box_new _ _ _ | exact box_set _ _ _ | (simp only [box_new, box_set, box_row, box_new_ne, box_set_ne, ne_eq, not_false_eq_true, *]; done) | (simp only [box_new, box_set, box_row, box_new_ne, box_set_ne, ne_eq, not_false_eq_true, *]; rfl)) rfl rfl rfl rfl) rfl rfl ?_; rintro _ _ ⟨rfl, rfl⟩))
    refine LOps.do (LDo.alloc hD rfl rfl rfl) rfl rfl rfl ?_
    rintro _ _ ⟨bw, hbw, rfl, rfl⟩
    repeat (first
      | refine LOps.nil ?_
      | refine andThen_normal ?_
      | refine andThen_exit ?_
      | refine andThen_ret ?_
      | refine inBlock_normal ?_
      | refine inBlock_ret ?_
      | refine inBlock_here ?_
      | refine inBlock_out rfl ?_
      | refine LWp.seq ?_
      | refine LWp.region ?_
      | refine LWp.block ?_
      | refine LWp.exit ?_
      | refine LWp.ret ?_
      | refine LWp.skip ?_
      | refine LOps.val (LVal.move1 rfl rfl) rfl rfl rfl ?_
      | refine LOps.val (LVal.assign1 rfl rfl) rfl rfl rfl ?_
      | refine LOps.val (LVal.len hD rfl rfl rfl rfl) rfl rfl rfl ?_
      | refine LOps.val (LVal.lenStr hD rfl rfl rfl rfl) rfl rfl rfl ?_
      | refine LOps.val (LVal.add64 rfl rfl rfl (by omega)) rfl rfl rfl ?_
      | refine LOps.val (LVal.sub64 rfl rfl rfl (by omega)) rfl rfl rfl ?_
      | refine LOps.val (LVal.addU64 rfl rfl rfl (by omega)) rfl rfl rfl ?_
      | refine LOps.val (LVal.subU64 rfl rfl rfl (by omega)) rfl rfl rfl ?_
      | refine LOps.val (LVal.mulU64 rfl rfl rfl (by omega)) rfl rfl rfl ?_
      | refine LOps.val (LVal.remI rfl rfl rfl (by omega)) rfl rfl rfl ?_
      | refine LOps.val (LVal.quoU64 rfl rfl rfl (by omega)) rfl rfl rfl ?_
      | refine LOps.val (LVal.quo64 rfl rfl rfl (by omega)) rfl rfl rfl ?_
      | refine LOps.val (LVal.mul64 rfl rfl rfl (by omega)) rfl rfl rfl ?_
      | refine LOps.val (LVal.conv64 hD rfl rfl rfl rfl rfl (by omega)) rfl rfl rfl ?_
      | refine LOps.val (LVal.convU64 hD rfl rfl rfl rfl rfl (by omega)) rfl rfl rfl ?_
      | refine LOps.val (LVal.neqSame hD rfl rfl rfl) rfl rfl rfl ?_
      | refine LOps.val (LVal.neqSameB hD rfl rfl rfl rfl rfl) rfl rfl rfl ?_
      | refine LOps.val (LVal.binOp hD rfl rfl rfl rfl) rfl rfl rfl ?_
      | refine LOps.val (LVal.unOp rfl rfl rfl) rfl rfl rfl ?_
      | refine LOps.val (LVal.pick rfl rfl) rfl rfl rfl ?_
      | refine LOps.val (LVal.extract rfl rfl rfl) rfl rfl rfl ?_
      | refine LOps.val (LVal.convInt hD rfl rfl rfl rfl rfl) rfl rfl rfl ?_
      | refine LOps.val (LVal.fieldAddr hD rfl rfl rfl rfl rfl rfl (by decide)) rfl rfl rfl ?_
      | refine LOps.val (LVal.load hD rfl rfl (by first | assumption | exact box_new _ _ _ | exact box_set _ _ _ | (simp only [box_new, box_set, box_row, box_new_ne, box_set_ne, ne_eq, not_false_eq_true, *]; done) | (simp only [box_new, box_set, box_row, box_new_ne, box_set_ne, ne_eq, not_false_eq_true, *]; rfl)) rfl rfl) rfl rfl rfl ?_
      | refine LOps.val (LVal.indexMap hD rfl rfl rfl rfl rfl rfl (by first | assumption | omega) rfl) rfl rfl rfl ?_
      | refine LOps.val (LVal.loadRo hD rfl rfl rfl rfl) rfl rfl rfl ?_
      | refine LOps.val (LVal.fieldAddrRo hD rfl rfl rfl rfl rfl rfl (by decide)) rfl rfl rfl ?_
      | refine LOps.val (LVal.field hD rfl rfl rfl rfl rfl rfl rfl) rfl rfl rfl ?_
      | refine LOps.val (LVal.buildSlice1 hD rfl rfl rfl rfl rfl rfl rfl rfl rfl rfl) rfl rfl rfl ?_
      | refine LOps.val (LVal.build hD rfl rfl rfl rfl rfl rfl rfl) rfl rfl rfl ?_
      | refine LOps.val (LVal.buildSlice hD rfl rfl rfl rfl rfl rfl rfl rfl rfl rfl) rfl rfl rfl ?_
      | refine LOps.val (LVal.takeMap hD rfl rfl rfl rfl rfl rfl (by first | assumption | omega) rfl (fun _ _ => rfl)) rfl rfl rfl ?_
      | refine LOps.val (LVal.dropMap hD rfl rfl rfl rfl rfl rfl (by first | assumption | omega) rfl (fun _ _ => rfl)) rfl rfl rfl ?_
      | refine LOps.val (LVal.cutMap hD rfl rfl rfl rfl rfl rfl rfl (by first | assumption | omega) (by first | assumption | omega) rfl (fun _ _ => rfl)) rfl rfl rfl ?_
      | refine LOps.val (LVal.move2 rfl rfl) rfl rfl rfl ?_
      | refine LOps.val (LVal.assign2 rfl rfl) rfl rfl rfl ?_
      | refine LOps.val (LVal.move (.inl rfl)) rfl rfl rfl ?_
      | refine LOps.val (LVal.move (.inr rfl)) rfl rfl rfl ?_
      | refine LOps.out rfl rfl rfl ?_
      | refine LOps.valG (LVal.move1 rfl rfl) rfl rfl rfl ?_
      | refine LOps.valG (LVal.assign1 rfl rfl) rfl rfl rfl ?_
      | refine LOps.valG (LVal.len hD rfl rfl rfl rfl) rfl rfl rfl ?_
      | refine LOps.valG (LVal.lenStr hD rfl rfl rfl rfl) rfl rfl rfl ?_
      | refine LOps.valG (LVal.add64 rfl rfl rfl (by omega)) rfl rfl rfl ?_
      | refine LOps.valG (LVal.sub64 rfl rfl rfl (by omega)) rfl rfl rfl ?_
      | refine LOps.valG (LVal.addU64 rfl rfl rfl (by omega)) rfl rfl rfl ?_
      | refine LOps.valG (LVal.subU64 rfl rfl rfl (by omega)) rfl rfl rfl ?_
      | refine LOps.valG (LVal.mulU64 rfl rfl rfl (by omega)) rfl rfl rfl ?_
      | refine LOps.valG (LVal.remI rfl rfl rfl (by omega)) rfl rfl rfl ?_
      | refine LOps.valG (LVal.quoU64 rfl rfl rfl (by omega)) rfl rfl rfl ?_
      | refine LOps.valG (LVal.quo64 rfl rfl rfl (by omega)) rfl rfl rfl ?_
      | refine LOps.valG (LVal.mul64 rfl rfl rfl (by omega)) rfl rfl rfl ?_
      | refine LOps.valG (LVal.conv64 hD rfl rfl rfl rfl rfl (by omega)) rfl rfl rfl ?_
      | refine LOps.valG (LVal.convU64 hD rfl rfl rfl rfl rfl (by omega)) rfl rfl rfl ?_
      | refine LOps.valG (LVal.neqSame hD rfl rfl rfl) rfl rfl rfl ?_
      | refine LOps.valG (LVal.neqSameB hD rfl rfl rfl rfl rfl) rfl rfl rfl ?_
      | refine LOps.valG (LVal.binOp hD rfl rfl rfl rfl) rfl rfl rfl ?_
      | refine LOps.valG (LVal.unOp rfl rfl rfl) rfl rfl rfl ?_
      | refine LOps.valG (LVal.pick rfl rfl) rfl rfl rfl ?_
      | refine LOps.valG (LVal.extract rfl rfl rfl) rfl rfl rfl ?_
      | refine LOps.valG (LVal.convInt hD rfl rfl rfl rfl rfl) rfl rfl rfl ?_
      | refine LOps.valG (LVal.fieldAddr hD rfl rfl rfl rfl rfl rfl (by decide)) rfl rfl rfl ?_
      | refine LOps.valG (LVal.load hD rfl rfl (by first | assumption | exact box_new _ _ _ | exact box_set _ _ _ | (simp only [box_new, box_set, box_row, box_new_ne, box_set_ne, ne_eq, not_false_eq_true, *]; done) | (simp only [box_new, box_set, box_row, box_new_ne, box_set_ne, ne_eq, not_false_eq_true, *]; rfl)) rfl rfl) rfl rfl rfl ?_
      | refine LOps.valG (LVal.indexMap hD rfl rfl rfl rfl rfl rfl (by first | assumption | omega) rfl) rfl rfl rfl ?_
      | refine LOps.valG (LVal.loadRo hD rfl rfl rfl rfl) rfl rfl rfl ?_
      | refine LOps.valG (LVal.fieldAddrRo hD rfl rfl rfl rfl rfl rfl (by decide)) rfl rfl rfl ?_
      | refine LOps.valG (LVal.field hD rfl rfl rfl rfl rfl rfl rfl) rfl rfl rfl ?_
      | refine LOps.valG (LVal.buildSlice1 hD rfl rfl rfl rfl rfl rfl rfl rfl rfl rfl) rfl rfl rfl ?_
      | refine LOps.valG (LVal.build hD rfl rfl rfl rfl rfl rfl rfl) rfl rfl rfl ?_
      | refine LOps.valG (LVal.buildSlice hD rfl rfl rfl rfl rfl rfl rfl rfl rfl rfl) rfl rfl rfl ?_
      | refine LOps.valG (LVal.takeMap hD rfl rfl rfl rfl rfl rfl (by first | assumption | omega) rfl (fun _ _ => rfl)) rfl rfl rfl ?_
      | refine LOps.valG (LVal.dropMap hD rfl rfl rfl rfl rfl rfl (by first | assumption | omega) rfl (fun _ _ => rfl)) rfl rfl rfl ?_
      | refine LOps.valG (LVal.cutMap hD rfl rfl rfl rfl rfl rfl rfl (by first | assumption | omega) (by first | assumption | omega) rfl (fun _ _ => rfl)) rfl rfl rfl ?_
      | refine LOps.valG (LVal.move2 rfl rfl) rfl rfl rfl ?_
      | refine LOps.valG (LVal.assign2 rfl rfl) rfl rfl rfl ?_
      | refine LOps.valG (LVal.move (.inl rfl)) rfl rfl rfl ?_
      | refine LOps.valG (LVal.move (.inr rfl)) rfl rfl rfl ?_
      | (refine LOps.do0 (LDo.store hD rfl rfl (by first | assumption | exact box_new _ _ _ | exact box_set _ _ _ | (simp only [box_new, box_set, box_row, box_new_ne, box_set_ne, ne_eq, not_false_eq_true, *]; done) | (simp only [box_new, box_set, box_row, box_new_ne, box_set_ne, ne_eq, not_false_eq_true, *]; rfl)) rfl rfl rfl rfl) rfl rfl ?_; rintro _ _ ⟨rfl, rfl⟩))
    have hle0 : S.le ((S.newBox bw (ti40.zero.cells.toList.map constLV)).setBox bw [.sl .sh (iList U), .sl .sh (iList F)]) := ((LS.le.refl S).newBox hbw _).setBox hbw.box _
    have hno : ¬ (rt (slots p) = true ∧ 0 ≤ i ∧ i < (p % 16 : Nat)) → ∀ T : Nat → TV, T 4 = .one (.v (.int .u64 p)) → T 5 = .one (iv (-1)) → T 6 = .one (.v (.bool false)) →
        LBody G Try.f20.ntmps Try.f20 (fun r S' => r = remR p i ∧ S.le S') .ret T ((S.newBox bw (ti40.zero.cells.toList.map constLV)).setBox bw [.sl .sh (iList U), .sl .sh (iList F)]) := by
      intro h T h4 h5 h6
      refine ⟨_, (LRes.many rfl rfl (.cons (.tmp _) (.cons (.tmp _) (.cons (.tmp _) .nil)))).sh, ?_, hle0⟩
      rw [← remR_no h, h4, h5, h6]; rfl
    refine LOps.guard rfl rfl rfl (fun hg2 => ?_) (fun hg2 => ?_)
    · repeat (first
        | refine LOps.nil ?_
        | refine andThen_normal ?_
        | refine andThen_exit ?_
        | refine andThen_ret ?_
        | refine inBlock_normal ?_
        | refine inBlock_ret ?_
        | refine inBlock_here ?_
        | refine inBlock_out rfl ?_
        | refine LWp.seq ?_
        | refine LWp.region ?_
        | refine LWp.block ?_
        | refine LWp.exit ?_
        | refine LWp.ret ?_
        | refine LWp.skip ?_
        | refine LOps.val (LVal.move1 rfl rfl) rfl rfl rfl ?_
        | refine LOps.val (LVal.assign1 rfl rfl) rfl rfl rfl ?_
        | refine LOps.val (LVal.len hD rfl rfl rfl rfl) rfl rfl rfl ?_
        | refine LOps.val (LVal.lenStr hD rfl rfl rfl rfl) rfl rfl rfl ?_
        | refine LOps.val (LVal.add64 rfl rfl rfl (by omega)) rfl rfl rfl ?_
        | refine LOps.val (LVal.sub64 rfl rfl rfl (by omega)) rfl rfl rfl ?_
        | refine LOps.val (LVal.addU64 rfl rfl rfl (by omega)) rfl rfl rfl ?_
        | refine LOps.val (LVal.subU64 rfl rfl rfl (by omega)) rfl rfl rfl ?_
        | refine LOps.val (LVal.mulU64 rfl rfl rfl (by omega)) rfl rfl rfl ?_
        | refine LOps.val (LVal.remI rfl rfl rfl (by omega)) rfl rfl rfl ?_
        | refine LOps.val (LVal.quoU64 rfl rfl rfl (by omega)) rfl rfl rfl ?_
        | refine LOps.val (LVal.quo64 rfl rfl rfl (by omega)) rfl rfl rfl ?_
        | refine LOps.val (LVal.mul64 rfl rfl rfl (by omega)) rfl rfl rfl ?_
        | refine LOps.val (LVal.conv64 hD rfl rfl rfl rfl rfl (by omega)) rfl rfl rfl ?_
        | refine LOps.val (LVal.convU64 hD rfl rfl rfl rfl rfl (by omega)) rfl rfl rfl ?_
        | refine LOps.val (LVal.neqSame hD rfl rfl rfl) rfl rfl rfl ?_
        | refine LOps.val (LVal.neqSameB hD rfl rfl rfl rfl rfl) rfl rfl rfl ?_
        | refine LOps.val (LVal.binOp hD rfl rfl rfl rfl) rfl rfl rfl ?_
        | refine LOps.val (LVal.unOp rfl rfl rfl) rfl rfl rfl ?_
        | refine LOps.val (LVal.pick rfl rfl) rfl rfl rfl ?_
        | refine LOps.val (LVal.extract rfl rfl rfl) rfl rfl rfl ?_
        | refine LOps.val (LVal.convInt hD rfl rfl rfl rfl rfl) rfl rfl rfl ?_
        | refine LOps.val (LVal.fieldAddr hD rfl rfl rfl rfl rfl rfl (by decide)) rfl rfl rfl ?_
        | refine LOps.val (LVal.load hD rfl rfl (by first | assumption | exact box_new _ _ _ | exact box_set _ _ _ | (simp only [box_new, box_set, box_row, box_new_ne, box_set_ne, ne_eq, not_false_eq_true, *]; done) | (simp only [box_new, box_set, box_row, box_new_ne, box_set_ne, ne_eq, not_false_eq_true, *]; rfl)) rfl rfl) rfl rfl rfl ?_
        | refine LOps.val (LVal.indexMap hD rfl rfl rfl rfl rfl rfl (by first | assumption | omega) rfl) rfl rfl rfl ?_
        | refine LOps.val (LVal.loadRo hD rfl rfl rfl rfl) rfl rfl rfl ?_
        | refine LOps.val (LVal.fieldAddrRo hD rfl rfl rfl rfl rfl rfl (by decide)) rfl rfl rfl ?_
        | refine LOps.val (LVal.field hD rfl rfl rfl rfl rfl rfl rfl) rfl rfl rfl ?_
        | refine LOps.val (LVal.buildSlice1 hD rfl rfl rfl rfl rfl rfl rfl rfl rfl rfl) rfl rfl rfl ?_
        | refine LOps.val (LVal.build hD rfl rfl rfl rfl rfl rfl rfl) rfl rfl rfl ?_
        | refine LOps.val (LVal.buildSlice hD rfl rfl rfl rfl rfl rfl rfl rfl rfl rfl) rfl rfl rfl ?_
        | refine LOps.val (LVal.takeMap hD rfl rfl rfl rfl rfl rfl (by first | assumption | omega) rfl (fun _ _ => rfl)) rfl rfl rfl ?_
        | refine LOps.val (LVal.dropMap hD rfl rfl rfl rfl rfl rfl (by first | assumption | omega) rfl (fun _ _ => rfl)) rfl rfl rfl ?_
        | refine LOps.val (LVal.cutMap hD rfl rfl rfl rfl rfl rfl rfl (by first | assumption | omega) (by first | assumption | omega) rfl (fun _ _ => rfl)) rfl rfl rfl ?_
        | refine LOps.val (LVal.move2 rfl rfl) rfl rfl rfl ?_
        | refine LOps.val (LVal.assign2 rfl rfl) rfl rfl rfl ?_
        | refine LOps.val (LVal.move (.inl rfl)) rfl rfl rfl ?_
        | refine LOps.val (LVal.move (.inr rfl)) rfl rfl rfl ?_
        | refine LOps.out rfl rfl rfl ?_
        | refine LOps.valG (LVal.move1 rfl rfl) rfl rfl rfl ?_
        | refine LOps.valG (LVal.assign1 rfl rfl) rfl rfl rfl ?_
        | refine LOps.valG (LVal.len hD rfl rfl rfl rfl) rfl rfl rfl ?_
        | refine LOps.valG (LVal.lenStr hD rfl rfl rfl rfl) rfl rfl rfl ?_
        | refine LOps.valG (LVal.add64 rfl rfl rfl (by omega)) rfl rfl rfl ?_
        | refine LOps.valG (LVal.sub64 rfl rfl rfl (by omega)) rfl rfl rfl ?_
        | refine LOps.valG (LVal.addU64 rfl rfl rfl (by omega)) rfl rfl rfl ?_
        | refine LOps.valG (LVal.subU64 rfl rfl rfl (by omega)) rfl rfl rfl ?_
        | refine LOps.valG (LVal.mulU64 rfl rfl rfl (by omega)) rfl rfl rfl ?_
        | refine LOps.valG (LVal.remI rfl rfl rfl (by omega)) rfl rfl rfl ?_
        | refine LOps.valG (LVal.quoU64 rfl rfl rfl (by omega)) rfl rfl rfl ?_
        | refine LOps.valG (LVal.quo64 rfl rfl rfl (by omega)) rfl rfl rfl ?_
        | refine LOps.valG (LVal.mul64 rfl rfl rfl (by omega)) rfl rfl rfl ?_
        | refine LOps.valG (LVal.conv64 hD rfl rfl rfl rfl rfl (by omega)) rfl rfl rfl ?_
        | refine LOps.valG (LVal.convU64 hD rfl rfl rfl rfl rfl (by omega)) rfl rfl rfl ?_
        | refine LOps.valG (LVal.neqSame hD rfl rfl rfl) rfl rfl rfl ?_
        | refine LOps.valG (LVal.neqSameB hD rfl rfl rfl rfl rfl) rfl rfl rfl ?_
        | refine LOps.valG (LVal.binOp hD rfl rfl rfl rfl) rfl rfl rfl ?_
        | refine LOps.valG (LVal.unOp rfl rfl rfl) rfl rfl rfl ?_
        | refine LOps.valG (LVal.pick rfl rfl) rfl rfl rfl ?_
        | refine LOps.valG (LVal.extract rfl rfl rfl) rfl rfl rfl ?_
        | refine LOps.valG (LVal.convInt hD rfl rfl rfl rfl rfl) rfl rfl rfl ?_
        | refine LOps.valG (LVal.fieldAddr hD rfl rfl rfl rfl rfl rfl (by decide)) rfl rfl rfl ?_
        | refine LOps.valG (LVal.load hD rfl rfl (by first | assumption | exact box_new _ _ _ | exact box_set _ _ _ | (simp only [box_new, box_set, box_row, box_new_ne, box_set_ne, ne_eq, not_false_eq_true, *]; done) | (simp only [box_new, box_set, box_row, box_new_ne, box_set_ne, ne_eq, not_false_eq_true, *]; rfl)) rfl rfl) rfl rfl rfl ?_
        | refine LOps.valG (LVal.indexMap hD rfl rfl rfl rfl rfl rfl (by first | assumption | omega) rfl) rfl rfl rfl ?_
        | refine LOps.valG (LVal.loadRo hD rfl rfl rfl rfl) rfl rfl rfl ?_
        | refine LOps.valG (LVal.fieldAddrRo hD rfl rfl rfl rfl rfl rfl (by decide)) rfl rfl rfl ?_
        | refine LOps.valG (LVal.field hD rfl rfl rfl rfl rfl rfl rfl) rfl rfl rfl ?_
        | refine LOps.valG (LVal.buildSlice1 hD rfl rfl rfl rfl rfl rfl rfl rfl rfl rfl) rfl rfl rfl ?_
        | refine LOps.valG (LVal.build hD rfl rfl rfl rfl rfl rfl rfl) rfl rfl rfl ?_
        | refine LOps.valG (LVal.buildSlice hD rfl rfl rfl rfl rfl rfl rfl rfl rfl rfl) rfl rfl rfl ?_
        | refine LOps.valG (LVal.takeMap hD rfl rfl rfl rfl rfl rfl (by first | assumption | omega) rfl (fun _ _ => rfl)) rfl rfl rfl ?_
        | refine LOps.valG (LVal.dropMap hD rfl rfl rfl rfl rfl rfl (by first | assumption | omega) rfl (fun _ _ => rfl)) rfl rfl rfl ?_
        | refine LOps.valG (LVal.cutMap hD rfl rfl rfl rfl rfl rfl rfl (by first | assumption | omega) (by first | assumption | omega) rfl (fun _ _ => rfl)) rfl rfl rfl ?_
        | refine LOps.valG (LVal.move2 rfl rfl) rfl rfl rfl ?_
        | refine LOps.valG (LVal.assign2 rfl rfl) rfl rfl rfl ?_
        | refine LOps.valG (LVal.move (.inl rfl)) rfl rfl rfl ?_
        | refine LOps.valG (LVal.move (.inr rfl)) rfl rfl rfl ?_
        | (refine LOps.do0 (LDo.store hD rfl rfl (by first | assumption | exact box_new _ _ _ | exact box_set _ _ _ | (simp only [box_new, box_set, box_row, box_new_ne, box_set_ne, ne_eq, not_false_eq_true, *]; done) | (simp only [box_new, box_set, box_row, box_new_ne, box_set_ne, ne_eq, not_false_eq_true, *]; rfl)) rfl rfl rfl rfl) rfl rfl ?_; rintro _ _ ⟨rfl, rfl⟩))
      refine LWp.condT rfl ?_
      repeat (first
        | refine LOps.nil ?_
        | refine andThen_normal ?_
        | refine andThen_exit ?_
        | refine andThen_ret ?_
        | refine inBlock_normal ?_
        | refine inBlock_ret ?_
        | refine inBlock_here ?_
        | refine inBlock_out rfl ?_
        | refine LWp.seq ?_
        | refine LWp.region ?_
        | refine LWp.block ?_
        | refine LWp.exit ?_
        | refine LWp.ret ?_
        | refine LWp.skip ?_
        | refine LOps.val (LVal.move1 rfl rfl) rfl rfl rfl ?_
        | refine LOps.val (LVal.assign1 rfl rfl) rfl rfl rfl ?_
        | refine LOps.val (LVal.len hD rfl rfl rfl rfl) rfl rfl rfl ?_
        | refine LOps.val (LVal.lenStr hD rfl rfl rfl rfl) rfl rfl rfl ?_
        | refine LOps.val (LVal.add64 rfl rfl rfl (by omega)) rfl rfl rfl ?_
        | refine LOps.val (LVal.sub64 rfl rfl rfl (by omega)) rfl rfl rfl ?_
        | refine LOps.val (LVal.addU64 rfl rfl rfl (by omega)) rfl rfl rfl ?_
        | refine LOps.val (LVal.subU64 rfl rfl rfl (by omega)) rfl rfl rfl ?_
        | refine LOps.val (LVal.mulU64 rfl rfl rfl (by omega)) rfl rfl rfl ?_
        | refine LOps.val (LVal.remI rfl rfl rfl (by omega)) rfl rfl rfl ?_
        | refine LOps.val (LVal.quoU64 rfl rfl rfl (by omega)) rfl rfl rfl ?_
        | refine LOps.val (LVal.quo64 rfl rfl rfl (by omega)) rfl rfl rfl ?_
        | refine LOps.val (LVal.mul64 rfl rfl rfl (by omega)) rfl rfl rfl ?_
        | refine LOps.val (LVal.conv64 hD rfl rfl rfl rfl rfl (by omega)) rfl rfl rfl ?_
        | refine LOps.val (LVal.convU64 hD rfl rfl rfl rfl rfl (by omega)) rfl rfl rfl ?_
        | refine LOps.val (LVal.neqSame hD rfl rfl rfl) rfl rfl rfl ?_
        | refine LOps.val (LVal.neqSameB hD rfl rfl rfl rfl rfl) rfl rfl rfl ?_
        | refine LOps.val (LVal.binOp hD rfl rfl rfl rfl) rfl rfl rfl ?_
        | refine LOps.val (LVal.unOp rfl rfl rfl) rfl rfl rfl ?_
        | refine LOps.val (LVal.pick rfl rfl) rfl rfl rfl ?_
        | refine LOps.val (LVal.extract rfl rfl rfl) rfl rfl rfl ?_
        | refine LOps.val (LVal.convInt hD rfl rfl rfl rfl rfl) rfl rfl rfl ?_
        | refine LOps.val (LVal.fieldAddr hD rfl rfl rfl rfl rfl rfl (by decide)) rfl rfl rfl ?_
        | refine LOps.val (LVal.load hD rfl rfl (by first | assumption | exact box_new _ _ _ | exact box_set _ _ _ | (simp only [box_new, box_set, box_row, box_new_ne, box_set_ne, ne_eq, not_false_eq_true, *]; done) | (simp only [box_new, box_set, box_row, box_new_ne, box_set_ne, ne_eq, not_false_eq_true, *]; rfl)) rfl rfl) rfl rfl rfl ?_
        | refine LOps.val (LVal.indexMap hD rfl rfl rfl rfl rfl rfl (by first | assumption | omega) rfl) rfl rfl rfl ?_
        | refine LOps.val (LVal.loadRo hD rfl rfl rfl rfl) rfl rfl rfl ?_
        | refine LOps.val (LVal.fieldAddrRo hD rfl rfl rfl rfl rfl rfl (by decide)) rfl rfl rfl ?_
        | refine LOps.val (LVal.field hD rfl rfl rfl rfl rfl rfl rfl) rfl rfl rfl ?_
        | refine LOps.val (LVal.buildSlice1 hD rfl rfl rfl rfl rfl rfl rfl rfl rfl rfl) rfl rfl rfl ?_
        | refine LOps.val (LVal.build hD rfl rfl rfl rfl rfl rfl rfl) rfl rfl rfl ?_
        | refine LOps.val (LVal.buildSlice hD rfl rfl rfl rfl rfl rfl rfl rfl rfl rfl) rfl rfl rfl ?_
        | refine LOps.val (LVal.takeMap hD rfl rfl rfl rfl rfl rfl (by first | assumption | omega) rfl (fun _ _ => rfl)) rfl rfl rfl ?_
        | refine LOps.val (LVal.dropMap hD rfl rfl rfl rfl rfl rfl (by first | assumption | omega) rfl (fun _ _ => rfl)) rfl rfl rfl ?_
        | refine LOps.val (LVal.cutMap hD rfl rfl rfl rfl rfl rfl rfl (by first | assumption | omega) (by first | assumption | omega) rfl (fun _ _ => rfl)) rfl rfl rfl ?_
        | refine LOps.val (LVal.move2 rfl rfl) rfl rfl rfl ?_
        | refine LOps.val (LVal.assign2 rfl rfl) rfl rfl rfl ?_
        | refine LOps.val (LVal.move (.inl rfl)) rfl rfl rfl ?_
        | refine LOps.val (LVal.move (.inr rfl)) rfl rfl rfl ?_
        | refine LOps.out rfl rfl rfl ?_
        | refine LOps.valG (LVal.move1 rfl rfl) rfl rfl rfl ?_
        | refine LOps.valG (LVal.assign1 rfl rfl) rfl rfl rfl ?_
        | refine LOps.valG (LVal.len hD rfl rfl rfl rfl) rfl rfl rfl ?_
        | refine LOps.valG (LVal.lenStr hD rfl rfl rfl rfl) rfl rfl rfl ?_
        | refine LOps.valG (LVal.add64 rfl rfl rfl (by omega)) rfl rfl rfl ?_
        | refine LOps.valG (LVal.sub64 rfl rfl rfl (by omega)) rfl rfl rfl ?_
        | refine LOps.valG (LVal.addU64 rfl rfl rfl (by omega)) rfl rfl rfl ?_
        | refine LOps.valG (LVal.subU64 rfl rfl rfl (by omega)) rfl rfl rfl ?_
        | refine LOps.valG (LVal.mulU64 rfl rfl rfl (by omega)) rfl rfl rfl ?_
        | refine LOps.valG (LVal.remI rfl rfl rfl (by omega)) rfl rfl rfl ?_
        | refine LOps.valG (LVal.quoU64 rfl rfl rfl (by omega)) rfl rfl rfl ?_
        | refine LOps.valG (LVal.quo64 rfl rfl rfl (by omega)) rfl rfl rfl ?_
        | refine LOps.valG (LVal.mul64 rfl rfl rfl (by omega)) rfl rfl rfl ?_
        | refine LOps.valG (LVal.conv64 hD rfl rfl rfl rfl rfl (by omega)) rfl rfl rfl ?_
        | refine LOps.valG (LVal.convU64 hD rfl rfl rfl rfl rfl (by omega)) rfl rfl rfl ?_
        | refine LOps.valG (LVal.neqSame hD rfl rfl rfl) rfl rfl rfl ?_
        | refine LOps.valG (LVal.neqSameB hD rfl rfl rfl rfl rfl) rfl rfl rfl ?_
        | refine LOps.valG (LVal.binOp hD rfl rfl rfl rfl) rfl rfl rfl ?_
        | refine LOps.valG (LVal.unOp rfl rfl rfl) rfl rfl rfl ?_
        | refine LOps.valG (LVal.pick rfl rfl) rfl rfl rfl ?_
        | refine LOps.valG (LVal.extract rfl rfl rfl) rfl rfl rfl ?_
        | refine LOps.valG (LVal.convInt hD rfl rfl rfl rfl rfl) rfl rfl rfl ?_
        | refine LOps.valG (LVal.fieldAddr hD rfl rfl rfl rfl rfl rfl (by decide)) rfl rfl rfl ?_
        | refine LOps.valG (LVal.load hD rfl rfl (by first | assumption | exact box_new _ _ _ | exact box_set _ _ _ | (simp only [box_new, box_set, box_row, box_new_ne, box_set_ne, ne_eq, not_false_eq_true, *]; done) | (simp only [box_new, box_set, box_row, box_new_ne, box_set_ne, ne_eq, not_false_eq_true, *]; rfl)) rfl rfl) rfl rfl rfl ?_
        | refine LOps.valG (LVal.indexMap hD rfl rfl rfl rfl rfl rfl (by first | assumption | omega) rfl) rfl rfl rfl ?_
        | refine LOps.valG (LVal.loadRo hD rfl rfl rfl rfl) rfl rfl rfl ?_
        | refine LOps.valG (LVal.fieldAddrRo hD rfl rfl rfl rfl rfl rfl (by decide)) rfl rfl rfl ?_
        | refine LOps.valG (LVal.field hD rfl rfl rfl rfl rfl rfl rfl) rfl rfl rfl ?_
        | refine LOps.valG (LVal.buildSlice1 hD rfl rfl rfl rfl rfl rfl rfl rfl rfl rfl) rfl rfl rfl ?_
        | refine LOps.valG (LVal.build hD rfl rfl rfl rfl rfl rfl rfl) rfl rfl rfl ?_
        | refine LOps.valG (LVal.buildSlice hD rfl rfl rfl rfl rfl rfl rfl rfl rfl rfl) rfl rfl rfl ?_
        | refine LOps.valG (LVal.takeMap hD rfl rfl rfl rfl rfl rfl (by first | assumption | omega) rfl (fun _ _ => rfl)) rfl rfl rfl ?_
        | refine LOps.valG (LVal.dropMap hD rfl rfl rfl rfl rfl rfl (by first | assumption | omega) rfl (fun _ _ => rfl)) rfl rfl rfl ?_
        | refine LOps.valG (LVal.cutMap hD rfl rfl rfl rfl rfl rfl rfl (by first | assumption | omega) (by first | assumption | omega) rfl (fun _ _ => rfl)) rfl rfl rfl ?_
        | refine LOps.valG (LVal.move2 rfl rfl) rfl rfl rfl ?_
        | refine LOps.valG (LVal.assign2 rfl rfl) rfl rfl rfl ?_
        | refine LOps.valG (LVal.move (.inl rfl)) rfl rfl rfl ?_
        | refine LOps.valG (LVal.move (.inr rfl)) rfl rfl rfl ?_
        | (refine LOps.do0 (LDo.store hD rfl rfl (by first | assumption | exact box_new _ _ _ | exact box_set _ _ _ | (simp only [box_new, box_set, box_row, box_new_ne, box_set_ne, ne_eq, not_false_eq_true, *]; done) | (simp only [box_new, box_set, box_row, box_new_ne, box_set_ne, ne_eq, not_false_eq_true, *]; rfl)) rfl rfl rfl rfl) rfl rfl ?_; rintro _ _ ⟨rfl, rfl⟩))
      exact hno (fun h => by have := of_decide_eq_true hg2; omega) _ rfl rfl rfl
    repeat (first
      | refine LOps.nil ?_
      | refine andThen_normal ?_
      | refine andThen_exit ?_
      | refine andThen_ret ?_
      | refine inBlock_normal ?_
      | refine inBlock_ret ?_
      | refine inBlock_here ?_
      | refine inBlock_out rfl ?_
      | refine LWp.seq ?_
      | refine LWp.region ?_
      | refine LWp.block ?_
      | refine LWp.exit ?_
      | refine LWp.ret ?_
      | refine LWp.skip ?_
      | refine LOps.val (LVal.move1 rfl rfl) rfl rfl rfl ?_
      | refine LOps.val (LVal.assign1 rfl rfl) rfl rfl rfl ?_
      | refine LOps.val (LVal.len hD rfl rfl rfl rfl) rfl rfl rfl ?_
      | refine LOps.val (LVal.lenStr hD rfl rfl rfl rfl) rfl rfl rfl ?_
      | refine LOps.val (LVal.add64 rfl rfl rfl (by omega)) rfl rfl rfl ?_
      | refine LOps.val (LVal.sub64 rfl rfl rfl (by omega)) rfl rfl rfl ?_
      | refine LOps.val (LVal.addU64 rfl rfl rfl (by omega)) rfl rfl rfl ?_
      | refine LOps.val (LVal.subU64 rfl rfl rfl (by omega)) rfl rfl rfl ?_
      | refine LOps.val (LVal.mulU64 rfl rfl rfl (by omega)) rfl rfl rfl ?_
      | refine LOps.val (LVal.remI rfl rfl rfl (by omega)) rfl rfl rfl ?_
      | refine LOps.val (LVal.quoU64 rfl rfl rfl (by omega)) rfl rfl rfl ?_
      | refine LOps.val (LVal.quo64 rfl rfl rfl (by omega)) rfl rfl rfl ?_
      | refine LOps.val (LVal.mul64 rfl rfl rfl (by omega)) rfl rfl rfl ?_
      | refine LOps.val (LVal.conv64 hD rfl rfl rfl rfl rfl (by omega)) rfl rfl rfl ?_
      | refine LOps.val (LVal.convU64 hD rfl rfl rfl rfl rfl (by omega)) rfl rfl rfl ?_
      | refine LOps.val (LVal.neqSame hD rfl rfl rfl) rfl rfl rfl ?_
      | refine LOps.val (LVal.neqSameB hD rfl rfl rfl rfl rfl) rfl rfl rfl ?_
      | refine LOps.val (LVal.binOp hD rfl rfl rfl rfl) rfl rfl rfl ?_
      | refine LOps.val (LVal.unOp rfl rfl rfl) rfl rfl rfl ?_
      | refine LOps.val (LVal.pick rfl rfl) rfl rfl rfl ?_
      | refine LOps.val (LVal.extract rfl rfl rfl) rfl rfl rfl ?_
      | refine LOps.val (LVal.convInt hD rfl rfl rfl rfl rfl) rfl rfl rfl ?_
      | refine LOps.val (LVal.fieldAddr hD rfl rfl rfl rfl rfl rfl (by decide)) rfl rfl rfl ?_
      | refine LOps.val (LVal.load hD rfl rfl (by first | assumption | exact box_new _ _ _ | exact box_set _ _ _ | (simp only [box_new, box_set, box_row, box_new_ne, box_set_ne, ne_eq, not_false_eq_true, *]; done) | (simp only [box_new, box_set, box_row, box_new_ne, box_set_ne, ne_eq, not_false_eq_true, *]; rfl)) rfl rfl) rfl rfl rfl ?_
      | refine LOps.val (LVal.indexMap hD rfl rfl rfl rfl rfl rfl (by first | assumption | omega) rfl) rfl rfl rfl ?_
      | refine LOps.val (LVal.loadRo hD rfl rfl rfl rfl) rfl rfl rfl ?_
      | refine LOps.val (LVal.fieldAddrRo hD rfl rfl rfl rfl rfl rfl (by decide)) rfl rfl rfl ?_
      | refine LOps.val (LVal.field hD rfl rfl rfl rfl rfl rfl rfl) rfl rfl rfl ?_
      | refine LOps.val (LVal.buildSlice1 hD rfl rfl rfl rfl rfl rfl rfl rfl rfl rfl) rfl rfl rfl ?_
      | refine LOps.val (LVal.build hD rfl rfl rfl rfl rfl rfl rfl) rfl rfl rfl ?_
      | refine LOps.val (LVal.buildSlice hD rfl rfl rfl rfl rfl rfl rfl rfl rfl rfl) rfl rfl rfl ?_
      | refine LOps.val (LVal.takeMap hD rfl rfl rfl rfl rfl rfl (by first | assumption | omega) rfl (fun _ _ => rfl)) rfl rfl rfl ?_
      | refine LOps.val (LVal.dropMap hD rfl rfl rfl rfl rfl rfl (by first | assumption | omega) rfl (fun _ _ => rfl)) rfl rfl rfl ?_
      | refine LOps.val (LVal.cutMap hD rfl rfl rfl rfl rfl rfl rfl (by first | assumption | omega) (by first | assumption | omega) rfl (fun _ _ => rfl)) rfl rfl rfl ?_
      | refine LOps.val (LVal.move2 rfl rfl) rfl rfl rfl ?_
      | refine LOps.val (LVal.assign2 rfl rfl) rfl rfl rfl ?_
      | refine LOps.val (LVal.move (.inl rfl)) rfl rfl rfl ?_
      | refine LOps.val (LVal.move (.inr rfl)) rfl rfl rfl ?_
      | refine LOps.out rfl rfl rfl ?_
      | refine LOps.valG (LVal.move1 rfl rfl) rfl rfl rfl ?_
      | refine LOps.valG (LVal.assign1 rfl rfl) rfl rfl rfl ?_
      | refine LOps.valG (LVal.len hD rfl rfl rfl rfl) rfl rfl rfl ?_
      | refine LOps.valG (LVal.lenStr hD rfl rfl rfl rfl) rfl rfl rfl ?_
      | refine LOps.valG (LVal.add64 rfl rfl rfl (by omega)) rfl rfl rfl ?_
      | refine LOps.valG (LVal.sub64 rfl rfl rfl (by omega)) rfl rfl rfl ?_
      | refine LOps.valG (LVal.addU64 rfl rfl rfl (by omega)) rfl rfl rfl ?_
      | refine LOps.valG (LVal.subU64 rfl rfl rfl (by omega)) rfl rfl rfl ?_
      | refine LOps.valG (LVal.mulU64 rfl rfl rfl (by omega)) rfl rfl rfl ?_
      | refine LOps.valG (LVal.remI rfl rfl rfl (by omega)) rfl rfl rfl ?_
      | refine LOps.valG (LVal.quoU64 rfl rfl rfl (by omega)) rfl rfl rfl ?_
      | refine LOps.valG (LVal.quo64 rfl rfl rfl (by omega)) rfl rfl rfl ?_
      | refine LOps.valG (LVal.mul64 rfl rfl rfl (by omega)) rfl rfl rfl ?_
      | refine LOps.valG (LVal.conv64 hD rfl rfl rfl rfl rfl (by omega)) rfl rfl rfl ?_
      | refine LOps.valG (LVal.convU64 hD rfl rfl rfl rfl rfl (by omega)) rfl rfl rfl ?_
      | refine LOps.valG (LVal.neqSame hD rfl rfl rfl) rfl rfl rfl ?_
      | refine LOps.valG (LVal.neqSameB hD rfl rfl rfl rfl rfl) rfl rfl rfl ?_
      | refine LOps.valG (LVal.binOp hD rfl rfl rfl rfl) rfl rfl rfl ?_
      | refine LOps.valG (LVal.unOp rfl rfl rfl) rfl rfl rfl ?_
      | refine LOps.valG (LVal.pick rfl rfl) rfl rfl rfl ?_
      | refine LOps.valG (LVal.extract rfl rfl rfl) rfl rfl rfl ?_
      | refine LOps.valG (LVal.convInt hD rfl rfl rfl rfl rfl) rfl rfl rfl ?_
      | refine LOps.valG (LVal.fieldAddr hD rfl rfl rfl rfl rfl rfl (by decide)) rfl rfl rfl ?_
      | refine LOps.valG (LVal.load hD rfl rfl (by first | assumption | exact box_new _ _ _ | exact box_set _ _ _ | (simp only [box_new, box_set, box_row, box_new_ne, box_set_ne, ne_eq, not_false_eq_true, *]; done) | (simp only [box_new, box_set, box_row, box_new_ne, box_set_ne, ne_eq, not_false_eq_true, *]; rfl)) rfl rfl) rfl rfl rfl ?_
      | refine LOps.valG (LVal.indexMap hD rfl rfl rfl rfl rfl rfl (by first | assumption | omega) rfl) rfl rfl rfl ?_
      | refine LOps.valG (LVal.loadRo hD rfl rfl rfl rfl) rfl rfl rfl ?_
      | refine LOps.valG (LVal.fieldAddrRo hD rfl rfl rfl rfl rfl rfl (by decide)) rfl rfl rfl ?_
      | refine LOps.valG (LVal.field hD rfl rfl rfl rfl rfl rfl rfl) rfl rfl rfl ?_
      | refine LOps.valG (LVal.buildSlice1 hD rfl rfl rfl rfl rfl rfl rfl rfl rfl rfl) rfl rfl rfl ?_
      | refine LOps.valG (LVal.build hD rfl rfl rfl rfl rfl rfl rfl) rfl rfl rfl ?_
      | refine LOps.valG (LVal.buildSlice hD rfl rfl rfl rfl rfl rfl rfl rfl rfl rfl) rfl rfl rfl ?_
      | refine LOps.valG (LVal.takeMap hD rfl rfl rfl rfl rfl rfl (by first | assumption | omega) rfl (fun _ _ => rfl)) rfl rfl rfl ?_
      | refine LOps.valG (LVal.dropMap hD rfl rfl rfl rfl rfl rfl (by first | assumption | omega) rfl (fun _ _ => rfl)) rfl rfl rfl ?_
      | refine LOps.valG (LVal.cutMap hD rfl rfl rfl rfl rfl rfl rfl (by first | assumption | omega) (by first | assumption | omega) rfl (fun _ _ => rfl)) rfl rfl rfl ?_
      | refine LOps.valG (LVal.move2 rfl rfl) rfl rfl rfl ?_
      | refine LOps.valG (LVal.assign2 rfl rfl) rfl rfl rfl ?_
      | refine LOps.valG (LVal.move (.inl rfl)) rfl rfl rfl ?_
      | refine LOps.valG (LVal.move (.inr rfl)) rfl rfl rfl ?_
      | (refine LOps.do0 (LDo.store hD rfl rfl (by first | assumption | exact box_new _ _ _ | exact box_set _ _ _ | (simp only [box_new, box_set, box_row, box_new_ne, box_set_ne, ne_eq, not_false_eq_true, *]; done) | (simp only [box_new, box_set, box_row, box_new_ne, box_set_ne, ne_eq, not_false_eq_true, *]; rfl)) rfl rfl rfl rfl) rfl rfl ?_; rintro _ _ ⟨rfl, rfl⟩))
    refine LWp.cond rfl (fun hg3 => ?_) (fun hg3 => ?_)
    · repeat (first
        | refine LOps.nil ?_
        | refine andThen_normal ?_
        | refine andThen_exit ?_
        | refine andThen_ret ?_
        | refine inBlock_normal ?_
        | refine inBlock_ret ?_
        | refine inBlock_here ?_
        | refine inBlock_out rfl ?_
        | refine LWp.seq ?_
        | refine LWp.region ?_
        | refine LWp.block ?_
        | refine LWp.exit ?_
        | refine LWp.ret ?_
        | refine LWp.skip ?_
        | refine LOps.val (LVal.move1 rfl rfl) rfl rfl rfl ?_
        | refine LOps.val (LVal.assign1 rfl rfl) rfl rfl rfl ?_
        | refine LOps.val (LVal.len hD rfl rfl rfl rfl) rfl rfl rfl ?_
        | refine LOps.val (LVal.lenStr hD rfl rfl rfl rfl) rfl rfl rfl ?_
        | refine LOps.val (LVal.add64 rfl rfl rfl (by omega)) rfl rfl rfl ?_
        | refine LOps.val (LVal.sub64 rfl rfl rfl (by omega)) rfl rfl rfl ?_
        | refine LOps.val (LVal.addU64 rfl rfl rfl (by omega)) rfl rfl rfl ?_
        | refine LOps.val (LVal.subU64 rfl rfl rfl (by omega)) rfl rfl rfl ?_
        | refine LOps.val (LVal.mulU64 rfl rfl rfl (by omega)) rfl rfl rfl ?_
        | refine LOps.val (LVal.remI rfl rfl rfl (by omega)) rfl rfl rfl ?_
        | refine LOps.val (LVal.quoU64 rfl rfl rfl (by omega)) rfl rfl rfl ?_
        | refine LOps.val (LVal.quo64 rfl rfl rfl (by omega)) rfl rfl rfl ?_
        | refine LOps.val (LVal.mul64 rfl rfl rfl (by omega)) rfl rfl rfl ?_
        | refine LOps.val (LVal.conv64 hD rfl rfl rfl rfl rfl (by omega)) rfl rfl rfl ?_
        | refine LOps.val (LVal.convU64 hD rfl rfl rfl rfl rfl (by omega)) rfl rfl rfl ?_
        | refine LOps.val (LVal.neqSame hD rfl rfl rfl) rfl rfl rfl ?_
        | refine LOps.val (LVal.neqSameB hD rfl rfl rfl rfl rfl) rfl rfl rfl ?_
        | refine LOps.val (LVal.binOp hD rfl rfl rfl rfl) rfl rfl rfl ?_
        | refine LOps.val (LVal.unOp rfl rfl rfl) rfl rfl rfl ?_
        | refine LOps.val (LVal.pick rfl rfl) rfl rfl rfl ?_
        | refine LOps.val (LVal.extract rfl rfl rfl) rfl rfl rfl ?_
        | refine LOps.val (LVal.convInt hD rfl rfl rfl rfl rfl) rfl rfl rfl ?_
        | refine LOps.val (LVal.fieldAddr hD rfl rfl rfl rfl rfl rfl (by decide)) rfl rfl rfl ?_
        | refine LOps.val (LVal.load hD rfl rfl (by first | assumption | exact box_new _ _ _ | exact box_set _ _ _ | (simp only [box_new, box_set, box_row, box_new_ne, box_set_ne, ne_eq, not_false_eq_true, *]; done) | (simp only [box_new, box_set, box_row, box_new_ne, box_set_ne, ne_eq, not_false_eq_true, *]; rfl)) rfl rfl) rfl rfl rfl ?_
        | refine LOps.val (LVal.indexMap hD rfl rfl rfl rfl rfl rfl (by first | assumption | omega) rfl) rfl rfl rfl ?_
        | refine LOps.val (LVal.loadRo hD rfl rfl rfl rfl) rfl rfl rfl ?_
        | refine LOps.val (LVal.fieldAddrRo hD rfl rfl rfl rfl rfl rfl (by decide)) rfl rfl rfl ?_
        | refine LOps.val (LVal.field hD rfl rfl rfl rfl rfl rfl rfl) rfl rfl rfl ?_
        | refine LOps.val (LVal.buildSlice1 hD rfl rfl rfl rfl rfl rfl rfl rfl rfl rfl) rfl rfl rfl ?_
        | refine LOps.val (LVal.build hD rfl rfl rfl rfl rfl rfl rfl) rfl rfl rfl ?_
        | refine LOps.val (LVal.buildSlice hD rfl rfl rfl rfl rfl rfl rfl rfl rfl rfl) rfl rfl rfl ?_
        | refine LOps.val (LVal.takeMap hD rfl rfl rfl rfl rfl rfl (by first | assumption | omega) rfl (fun _ _ => rfl)) rfl rfl rfl ?_
        | refine LOps.val (LVal.dropMap hD rfl rfl rfl rfl rfl rfl (by first | assumption | omega) rfl (fun _ _ => rfl)) rfl rfl rfl ?_
        | refine LOps.val (LVal.cutMap hD rfl rfl rfl rfl rfl rfl rfl (by first | assumption | omega) (by first | assumption | omega) rfl (fun _ _ => rfl)) rfl rfl rfl ?_
        | refine LOps.val (LVal.move2 rfl rfl) rfl rfl rfl ?_
        | refine LOps.val (LVal.assign2 rfl rfl) rfl rfl rfl ?_
        | refine LOps.val (LVal.move (.inl rfl)) rfl rfl rfl ?_
        | refine LOps.val (LVal.move (.inr rfl)) rfl rfl rfl ?_
        | refine LOps.out rfl rfl rfl ?_
        | refine LOps.valG (LVal.move1 rfl rfl) rfl rfl rfl ?_
        | refine LOps.valG (LVal.assign1 rfl rfl) rfl rfl rfl ?_
        | refine LOps.valG (LVal.len hD rfl rfl rfl rfl) rfl rfl rfl ?_
        | refine LOps.valG (LVal.lenStr hD rfl rfl rfl rfl) rfl rfl rfl ?_
        | refine LOps.valG (LVal.add64 rfl rfl rfl (by omega)) rfl rfl rfl ?_
        | refine LOps.valG (LVal.sub64 rfl rfl rfl (by omega)) rfl rfl rfl ?_
        | refine LOps.valG (LVal.addU64 rfl rfl rfl (by omega)) rfl rfl rfl ?_
        | refine LOps.valG (LVal.subU64 rfl rfl rfl (by omega)) rfl rfl rfl ?_
        | refine LOps.valG (LVal.mulU64 rfl rfl rfl (by omega)) rfl rfl rfl ?_
        | refine LOps.valG (LVal.remI rfl rfl rfl (by omega)) rfl rfl rfl ?_
        | refine LOps.valG (LVal.quoU64 rfl rfl rfl (by omega)) rfl rfl rfl ?_
        | refine LOps.valG (LVal.quo64 rfl rfl rfl (by omega)) rfl rfl rfl ?_
        | refine LOps.valG (LVal.mul64 rfl rfl rfl (by omega)) rfl rfl rfl ?_
        | refine LOps.valG (LVal.conv64 hD rfl rfl rfl rfl rfl (by omega)) rfl rfl rfl ?_
        | refine LOps.valG (LVal.convU64 hD rfl rfl rfl rfl rfl (by omega)) rfl rfl rfl ?_
        | refine LOps.valG (LVal.neqSame hD rfl rfl rfl) rfl rfl rfl ?_
        | refine LOps.valG (LVal.neqSameB hD rfl rfl rfl rfl rfl) rfl rfl rfl ?_
        | refine LOps.valG (LVal.binOp hD rfl rfl rfl rfl) rfl rfl rfl ?_
        | refine LOps.valG (LVal.unOp rfl rfl rfl) rfl rfl rfl ?_
        | refine LOps.valG (LVal.pick rfl rfl) rfl rfl rfl ?_
        | refine LOps.valG (LVal.extract rfl rfl rfl) rfl rfl rfl ?_
        | refine LOps.valG (LVal.convInt hD rfl rfl rfl rfl rfl) rfl rfl rfl ?_
        | refine LOps.valG (LVal.fieldAddr hD rfl rfl rfl rfl rfl rfl (by decide)) rfl rfl rfl ?_
        | refine LOps.valG (LVal.load hD rfl rfl (by first | assumption | exact box_new _ _ _ | exact box_set _ _ _ | (simp only [box_new, box_set, box_row, box_new_ne, box_set_ne, ne_eq, not_false_eq_true, *]; done) | (simp only [box_new, box_set, box_row, box_new_ne, box_set_ne, ne_eq, not_false_eq_true, *]; rfl)) rfl rfl) rfl rfl rfl ?_
        | refine LOps.valG (LVal.indexMap hD rfl rfl rfl rfl rfl rfl (by first | assumption | omega) rfl) rfl rfl rfl ?_
        | refine LOps.valG (LVal.loadRo hD rfl rfl rfl rfl) rfl rfl rfl ?_
        | refine LOps.valG (LVal.fieldAddrRo hD rfl rfl rfl rfl rfl rfl (by decide)) rfl rfl rfl ?_
        | refine LOps.valG (LVal.field hD rfl rfl rfl rfl rfl rfl rfl) rfl rfl rfl ?_
        | refine LOps.valG (LVal.buildSlice1 hD rfl rfl rfl rfl rfl rfl rfl rfl rfl rfl) rfl rfl rfl ?_
        | refine LOps.valG (LVal.build hD rfl rfl rfl rfl rfl rfl rfl) rfl rfl rfl ?_
        | refine LOps.valG (LVal.buildSlice hD rfl rfl rfl rfl rfl rfl rfl rfl rfl rfl) rfl rfl rfl ?_
        | refine LOps.valG (LVal.takeMap hD rfl rfl rfl rfl rfl rfl (by first | assumption | omega) rfl (fun _ _ => rfl)) rfl rfl rfl ?_
        | refine LOps.valG (LVal.dropMap hD rfl rfl rfl rfl rfl rfl (by first | assumption | omega) rfl (fun _ _ => rfl)) rfl rfl rfl ?_
        | refine LOps.valG (LVal.cutMap hD rfl rfl rfl rfl rfl rfl rfl (by first | assumption | omega) (by first | assumption | omega) rfl (fun _ _ => rfl)) rfl rfl rfl ?_
        | refine LOps.valG (LVal.move2 rfl rfl) rfl rfl rfl ?_
        | refine LOps.valG (LVal.assign2 rfl rfl) rfl rfl rfl ?_
        | refine LOps.valG (LVal.move (.inl rfl)) rfl rfl rfl ?_
        | refine LOps.valG (LVal.move (.inr rfl)) rfl rfl rfl ?_
        | (refine LOps.do0 (LDo.store hD rfl rfl (by first | assumption | exact box_new _ _ _ | exact box_set _ _ _ | (simp only [box_new, box_set, box_row, box_new_ne, box_set_ne, ne_eq, not_false_eq_true, *]; done) | (simp only [box_new, box_set, box_row, box_new_ne, box_set_ne, ne_eq, not_false_eq_true, *]; rfl)) rfl rfl rfl rfl) rfl rfl ?_; rintro _ _ ⟨rfl, rfl⟩))
      exact hno (fun h => by have := of_decide_eq_true hg3; rw [iList_len] at this; omega) _ rfl rfl rfl
    have hi0 : 0 ≤ i := by have := of_decide_eq_false hg2; omega
    have hin : i < U.length := by have := of_decide_eq_false hg3; rw [iList_len] at this; omega
    obtain ⟨k, rfl⟩ : ∃ k : Nat, i = k := ⟨i.toNat, by omega⟩
    have hkU : k < U.length := by omega
    have hkU2 : k ≤ U.length := by omega
    have hUk : U[k] = nib p k := by
      have : U[k]? = some (nib p k) := by
        rw [hU, List.getElem?_take, if_pos (by omega), slots_get p k (by omega)]
      simpa [hkU] using this
    have hbw0 := box_set (S.newBox bw (ti40.zero.cells.toList.map constLV)) bw [.sl .sh (iList U), .sl .sh (iList F)]
    repeat (first
      | refine LOps.nil ?_
      | refine andThen_normal ?_
      | refine andThen_exit ?_
      | refine andThen_ret ?_
      | refine inBlock_normal ?_
      | refine inBlock_ret ?_
      | refine inBlock_here ?_
      | refine inBlock_out rfl ?_
      | refine LWp.seq ?_
      | refine LWp.region ?_
      | refine LWp.block ?_
      | refine LWp.exit ?_
      | refine LWp.ret ?_
      | refine LWp.skip ?_
      | refine LOps.val (LVal.move1 rfl rfl) rfl rfl rfl ?_
      | refine LOps.val (LVal.assign1 rfl rfl) rfl rfl rfl ?_
      | refine LOps.val (LVal.len hD rfl rfl rfl rfl) rfl rfl rfl ?_
      | refine LOps.val (LVal.lenStr hD rfl rfl rfl rfl) rfl rfl rfl ?_
      | refine LOps.val (LVal.add64 rfl rfl rfl (by omega)) rfl rfl rfl ?_
      | refine LOps.val (LVal.sub64 rfl rfl rfl (by omega)) rfl rfl rfl ?_
      | refine LOps.val (LVal.addU64 rfl rfl rfl (by omega)) rfl rfl rfl ?_
      | refine LOps.val (LVal.subU64 rfl rfl rfl (by omega)) rfl rfl rfl ?_
      | refine LOps.val (LVal.mulU64 rfl rfl rfl (by omega)) rfl rfl rfl ?_
      | refine LOps.val (LVal.remI rfl rfl rfl (by omega)) rfl rfl rfl ?_
      | refine LOps.val (LVal.quoU64 rfl rfl rfl (by omega)) rfl rfl rfl ?_
      | refine LOps.val (LVal.quo64 rfl rfl rfl (by omega)) rfl rfl rfl ?_
      | refine LOps.val (LVal.mul64 rfl rfl rfl (by omega)) rfl rfl rfl ?_
      | refine LOps.val (LVal.conv64 hD rfl rfl rfl rfl rfl (by omega)) rfl rfl rfl ?_
      | refine LOps.val (LVal.convU64 hD rfl rfl rfl rfl rfl (by omega)) rfl rfl rfl ?_
      | refine LOps.val (LVal.neqSame hD rfl rfl rfl) rfl rfl rfl ?_
      | refine LOps.val (LVal.neqSameB hD rfl rfl rfl rfl rfl) rfl rfl rfl ?_
      | refine LOps.val (LVal.binOp hD rfl rfl rfl rfl) rfl rfl rfl ?_
      | refine LOps.val (LVal.unOp rfl rfl rfl) rfl rfl rfl ?_
      | refine LOps.val (LVal.pick rfl rfl) rfl rfl rfl ?_
      | refine LOps.val (LVal.extract rfl rfl rfl) rfl rfl rfl ?_
      | refine LOps.val (LVal.convInt hD rfl rfl rfl rfl rfl) rfl rfl rfl ?_
      | refine LOps.val (LVal.fieldAddr hD rfl rfl rfl rfl rfl rfl (by decide)) rfl rfl rfl ?_
      | refine LOps.val (LVal.load hD rfl rfl (by first | assumption | exact box_new _ _ _ | exact box_set _ _ _ | (simp only [box_new, box_set, box_row, box_new_ne, box_set_ne, ne_eq, not_false_eq_true, *]; done) | (simp only [box_new, box_set, box_row, box_new_ne, box_set_ne, ne_eq, not_false_eq_true, *]; rfl)) rfl rfl) rfl rfl rfl ?_
      | refine LOps.val (LVal.indexMap hD rfl rfl rfl rfl rfl rfl (by first | assumption | omega) rfl) rfl rfl rfl ?_
      | refine LOps.val (LVal.loadRo hD rfl rfl rfl rfl) rfl rfl rfl ?_
      | refine LOps.val (LVal.fieldAddrRo hD rfl rfl rfl rfl rfl rfl (by decide)) rfl rfl rfl ?_
      | refine LOps.val (LVal.field hD rfl rfl rfl rfl rfl rfl rfl) rfl rfl rfl ?_
      | refine LOps.val (LVal.buildSlice1 hD rfl rfl rfl rfl rfl rfl rfl rfl rfl rfl) rfl rfl rfl ?_
      | refine LOps.val (LVal.build hD rfl rfl rfl rfl rfl rfl rfl) rfl rfl rfl ?_
      | refine LOps.val (LVal.buildSlice hD rfl rfl rfl rfl rfl rfl rfl rfl rfl rfl) rfl rfl rfl ?_
      | refine LOps.val (LVal.takeMap hD rfl rfl rfl rfl rfl rfl (by first | assumption | omega) rfl (fun _ _ => rfl)) rfl rfl rfl ?_
      | refine LOps.val (LVal.dropMap hD rfl rfl rfl rfl rfl rfl (by first | assumption | omega) rfl (fun _ _ => rfl)) rfl rfl rfl ?_
      | refine LOps.val (LVal.cutMap hD rfl rfl rfl rfl rfl rfl rfl (by first | assumption | omega) (by first | assumption | omega) rfl (fun _ _ => rfl)) rfl rfl rfl ?_
      | refine LOps.val (LVal.move2 rfl rfl) rfl rfl rfl ?_
      | refine LOps.val (LVal.assign2 rfl rfl) rfl rfl rfl ?_
      | refine LOps.val (LVal.move (.inl rfl)) rfl rfl rfl ?_
      | refine LOps.val (LVal.move (.inr rfl)) rfl rfl rfl ?_
      | refine LOps.out rfl rfl rfl ?_
      | refine LOps.valG (LVal.move1 rfl rfl) rfl rfl rfl ?_
      | refine LOps.valG (LVal.assign1 rfl rfl) rfl rfl rfl ?_
      | refine LOps.valG (LVal.len hD rfl rfl rfl rfl) rfl rfl rfl ?_
      | refine LOps.valG (LVal.lenStr hD rfl rfl rfl rfl) rfl rfl rfl ?_
      | refine LOps.valG (LVal.add64 rfl rfl rfl (by omega)) rfl rfl rfl ?_
      | refine LOps.valG (LVal.sub64 rfl rfl rfl (by omega)) rfl rfl rfl ?_
      | refine LOps.valG (LVal.addU64 rfl rfl rfl (by omega)) rfl rfl rfl ?_
      | refine LOps.valG (LVal.subU64 rfl rfl rfl (by omega)) rfl rfl rfl ?_
      | refine LOps.valG (LVal.mulU64 rfl rfl rfl (by omega)) rfl rfl rfl ?_
      | refine LOps.valG (LVal.remI rfl rfl rfl (by omega)) rfl rfl rfl ?_
      | refine LOps.valG (LVal.quoU64 rfl rfl rfl (by omega)) rfl rfl rfl ?_
      | refine LOps.valG (LVal.quo64 rfl rfl rfl (by omega)) rfl rfl rfl ?_
      | refine LOps.valG (LVal.mul64 rfl rfl rfl (by omega)) rfl rfl rfl ?_
      | refine LOps.valG (LVal.conv64 hD rfl rfl rfl rfl rfl (by omega)) rfl rfl rfl ?_
      | refine LOps.valG (LVal.convU64 hD rfl rfl rfl rfl rfl (by omega)) rfl rfl rfl ?_
      | refine LOps.valG (LVal.neqSame hD rfl rfl rfl) rfl rfl rfl ?_
      | refine LOps.valG (LVal.neqSameB hD rfl rfl rfl rfl rfl) rfl rfl rfl ?_
      | refine LOps.valG (LVal.binOp hD rfl rfl rfl rfl) rfl rfl rfl ?_
      | refine LOps.valG (LVal.unOp rfl rfl rfl) rfl rfl rfl ?_
      | refine LOps.valG (LVal.pick rfl rfl) rfl rfl rfl ?_
      | refine LOps.valG (LVal.extract rfl rfl rfl) rfl rfl rfl ?_
      | refine LOps.valG (LVal.convInt hD rfl rfl rfl rfl rfl) rfl rfl rfl ?_
      | refine LOps.valG (LVal.fieldAddr hD rfl rfl rfl rfl rfl rfl (by decide)) rfl rfl rfl ?_
      | refine LOps.valG (LVal.load hD rfl rfl (by first | assumption | exact box_new _ _ _ | exact box_set _ _ _ | (simp only [box_new, box_set, box_row, box_new_ne, box_set_ne, ne_eq, not_false_eq_true, *]; done) | (simp only [box_new, box_set, box_row, box_new_ne, box_set_ne, ne_eq, not_false_eq_true, *]; rfl)) rfl rfl) rfl rfl rfl ?_
      | refine LOps.valG (LVal.indexMap hD rfl rfl rfl rfl rfl rfl (by first | assumption | omega) rfl) rfl rfl rfl ?_
      | refine LOps.valG (LVal.loadRo hD rfl rfl rfl rfl) rfl rfl rfl ?_
      | refine LOps.valG (LVal.fieldAddrRo hD rfl rfl rfl rfl rfl rfl (by decide)) rfl rfl rfl ?_
      | refine LOps.valG (LVal.field hD rfl rfl rfl rfl rfl rfl rfl) rfl rfl rfl ?_
      | refine LOps.valG (LVal.buildSlice1 hD rfl rfl rfl rfl rfl rfl rfl rfl rfl rfl) rfl rfl rfl ?_
      | refine LOps.valG (LVal.build hD rfl rfl rfl rfl rfl rfl rfl) rfl rfl rfl ?_
      | refine LOps.valG (LVal.buildSlice hD rfl rfl rfl rfl rfl rfl rfl rfl rfl rfl) rfl rfl rfl ?_
      | refine LOps.valG (LVal.takeMap hD rfl rfl rfl rfl rfl rfl (by first | assumption | omega) rfl (fun _ _ => rfl)) rfl rfl rfl ?_
      | refine LOps.valG (LVal.dropMap hD rfl rfl rfl rfl rfl rfl (by first | assumption | omega) rfl (fun _ _ => rfl)) rfl rfl rfl ?_
      | refine LOps.valG (LVal.cutMap hD rfl rfl rfl rfl rfl rfl rfl (by first | assumption | omega) (by first | assumption | omega) rfl (fun _ _ => rfl)) rfl rfl rfl ?_
      | refine LOps.valG (LVal.move2 rfl rfl) rfl rfl rfl ?_
      | refine LOps.valG (LVal.assign2 rfl rfl) rfl rfl rfl ?_
      | refine LOps.valG (LVal.move (.inl rfl)) rfl rfl rfl ?_
      | refine LOps.valG (LVal.move (.inr rfl)) rfl rfl rfl ?_
      | (refine LOps.do0 (LDo.store hD rfl rfl (by first | assumption | exact box_new _ _ _ | exact box_set _ _ _ | (simp only [box_new, box_set, box_row, box_new_ne, box_set_ne, ne_eq, not_false_eq_true, *]; done) | (simp only [box_new, box_set, box_row, box_new_ne, box_set_ne, ne_eq, not_false_eq_true, *]; rfl)) rfl rfl rfl rfl) rfl rfl ?_; rintro _ _ ⟨rfl, rfl⟩))
    refine LOps.do (LDo.appendN hD rfl rfl rfl rfl rfl rfl rfl rfl rfl (show [].length = 0 from rfl) (iList_len (U.take k)) (show Owned _ _ 0 .nil from rfl) (iList_one _) (by simp; omega)) rfl rfl rfl ?_
    rintro _ S1 ⟨o1, rfl, hown1, hup1, hnew1⟩
    have hle1 := hle0.upto hup1 (.nil S)
    have hx1 := (Out.nil S).next hle0 hnew1
    have hb1 := hup1.box _ _ hbw0
    clear hbw0
    repeat (first
      | refine LOps.val (LVal.dropLit hD rfl rfl rfl (m := k + 1) rfl rfl rfl rfl (by omega) rfl (fun _ _ => rfl)) rfl rfl rfl ?_
      | refine LOps.nil ?_
      | refine andThen_normal ?_
      | refine andThen_exit ?_
      | refine andThen_ret ?_
      | refine inBlock_normal ?_
      | refine inBlock_ret ?_
      | refine inBlock_here ?_
      | refine inBlock_out rfl ?_
      | refine LWp.seq ?_
      | refine LWp.region ?_
      | refine LWp.block ?_
      | refine LWp.exit ?_
      | refine LWp.ret ?_
      | refine LWp.skip ?_
      | refine LOps.val (LVal.move1 rfl rfl) rfl rfl rfl ?_
      | refine LOps.val (LVal.assign1 rfl rfl) rfl rfl rfl ?_
      | refine LOps.val (LVal.len hD rfl rfl rfl rfl) rfl rfl rfl ?_
      | refine LOps.val (LVal.lenStr hD rfl rfl rfl rfl) rfl rfl rfl ?_
      | refine LOps.val (LVal.add64 rfl rfl rfl (by omega)) rfl rfl rfl ?_
      | refine LOps.val (LVal.sub64 rfl rfl rfl (by omega)) rfl rfl rfl ?_
      | refine LOps.val (LVal.addU64 rfl rfl rfl (by omega)) rfl rfl rfl ?_
      | refine LOps.val (LVal.subU64 rfl rfl rfl (by omega)) rfl rfl rfl ?_
      | refine LOps.val (LVal.mulU64 rfl rfl rfl (by omega)) rfl rfl rfl ?_
      | refine LOps.val (LVal.remI rfl rfl rfl (by omega)) rfl rfl rfl ?_
      | refine LOps.val (LVal.quoU64 rfl rfl rfl (by omega)) rfl rfl rfl ?_
      | refine LOps.val (LVal.quo64 rfl rfl rfl (by omega)) rfl rfl rfl ?_
      | refine LOps.val (LVal.mul64 rfl rfl rfl (by omega)) rfl rfl rfl ?_
      | refine LOps.val (LVal.conv64 hD rfl rfl rfl rfl rfl (by omega)) rfl rfl rfl ?_
      | refine LOps.val (LVal.convU64 hD rfl rfl rfl rfl rfl (by omega)) rfl rfl rfl ?_
      | refine LOps.val (LVal.neqSame hD rfl rfl rfl) rfl rfl rfl ?_
      | refine LOps.val (LVal.neqSameB hD rfl rfl rfl rfl rfl) rfl rfl rfl ?_
      | refine LOps.val (LVal.binOp hD rfl rfl rfl rfl) rfl rfl rfl ?_
      | refine LOps.val (LVal.unOp rfl rfl rfl) rfl rfl rfl ?_
      | refine LOps.val (LVal.pick rfl rfl) rfl rfl rfl ?_
      | refine LOps.val (LVal.extract rfl rfl rfl) rfl rfl rfl ?_
      | refine LOps.val (LVal.convInt hD rfl rfl rfl rfl rfl) rfl rfl rfl ?_
      | refine LOps.val (LVal.fieldAddr hD rfl rfl rfl rfl rfl rfl (by decide)) rfl rfl rfl ?_
      | refine LOps.val (LVal.load hD rfl rfl (by first | assumption | exact box_new _ _ _ | exact box_set _ _ _ | (simp only [box_new, box_set, box_row, box_new_ne, box_set_ne, ne_eq, not_false_eq_true, *]; done) | (simp only [box_new, box_set, box_row, box_new_ne, box_set_ne, ne_eq, not_false_eq_true, *]; rfl)) rfl rfl) rfl rfl rfl ?_
      | refine LOps.val (LVal.indexMap hD rfl rfl rfl rfl rfl rfl (by first | assumption | omega) rfl) rfl rfl rfl ?_
      | refine LOps.val (LVal.loadRo hD rfl rfl rfl rfl) rfl rfl rfl ?_
      | refine LOps.val (LVal.fieldAddrRo hD rfl rfl rfl rfl rfl rfl (by decide)) rfl rfl rfl ?_
      | refine LOps.val (LVal.field hD rfl rfl rfl rfl rfl rfl rfl) rfl rfl rfl ?_
      | refine LOps.val (LVal.buildSlice1 hD rfl rfl rfl rfl rfl rfl rfl rfl rfl rfl) rfl rfl rfl ?_
      | refine LOps.val (LVal.build hD rfl rfl rfl rfl rfl rfl rfl) rfl rfl rfl ?_
      | refine LOps.val (LVal.buildSlice hD rfl rfl rfl rfl rfl rfl rfl rfl rfl rfl) rfl rfl rfl ?_
      | refine LOps.val (LVal.takeMap hD rfl rfl rfl rfl rfl rfl (by first | assumption | omega) rfl (fun _ _ => rfl)) rfl rfl rfl ?_
      | refine LOps.val (LVal.dropMap hD rfl rfl rfl rfl rfl rfl (by first | assumption | omega) rfl (fun _ _ => rfl)) rfl rfl rfl ?_
      | refine LOps.val (LVal.cutMap hD rfl rfl rfl rfl rfl rfl rfl (by first | assumption | omega) (by first | assumption | omega) rfl (fun _ _ => rfl)) rfl rfl rfl ?_
      | refine LOps.val (LVal.move2 rfl rfl) rfl rfl rfl ?_
      | refine LOps.val (LVal.assign2 rfl rfl) rfl rfl rfl ?_
      | refine LOps.val (LVal.move (.inl rfl)) rfl rfl rfl ?_
      | refine LOps.val (LVal.move (.inr rfl)) rfl rfl rfl ?_
      | refine LOps.out rfl rfl rfl ?_
      | refine LOps.valG (LVal.move1 rfl rfl) rfl rfl rfl ?_
      | refine LOps.valG (LVal.assign1 rfl rfl) rfl rfl rfl ?_
      | refine LOps.valG (LVal.len hD rfl rfl rfl rfl) rfl rfl rfl ?_
      | refine LOps.valG (LVal.lenStr hD rfl rfl rfl rfl) rfl rfl rfl ?_
      | refine LOps.valG (LVal.add64 rfl rfl rfl (by omega)) rfl rfl rfl ?_
      | refine LOps.valG (LVal.sub64 rfl rfl rfl (by omega)) rfl rfl rfl ?_
      | refine LOps.valG (LVal.addU64 rfl rfl rfl (by omega)) rfl rfl rfl ?_
      | refine LOps.valG (LVal.subU64 rfl rfl rfl (by omega)) rfl rfl rfl ?_
      | refine LOps.valG (LVal.mulU64 rfl rfl rfl (by omega)) rfl rfl rfl ?_
      | refine LOps.valG (LVal.remI rfl rfl rfl (by omega)) rfl rfl rfl ?_
      | refine LOps.valG (LVal.quoU64 rfl rfl rfl (by omega)) rfl rfl rfl ?_
      | refine LOps.valG (LVal.quo64 rfl rfl rfl (by omega)) rfl rfl rfl ?_
      | refine LOps.valG (LVal.mul64 rfl rfl rfl (by omega)) rfl rfl rfl ?_
      | refine LOps.valG (LVal.conv64 hD rfl rfl rfl rfl rfl (by omega)) rfl rfl rfl ?_
      | refine LOps.valG (LVal.convU64 hD rfl rfl rfl rfl rfl (by omega)) rfl rfl rfl ?_
      | refine LOps.valG (LVal.neqSame hD rfl rfl rfl) rfl rfl rfl ?_
      | refine LOps.valG (LVal.neqSameB hD rfl rfl rfl rfl rfl) rfl rfl rfl ?_
      | refine LOps.valG (LVal.binOp hD rfl rfl rfl rfl) rfl rfl rfl ?_
      | refine LOps.valG (LVal.unOp rfl rfl rfl) rfl rfl rfl ?_
      | refine LOps.valG (LVal.pick rfl rfl) rfl rfl rfl ?_
      | refine LOps.valG (LVal.extract rfl rfl rfl) rfl rfl rfl ?_
      | refine LOps.valG (LVal.convInt hD rfl rfl rfl rfl rfl) rfl rfl rfl ?_
      | refine LOps.valG (LVal.fieldAddr hD rfl rfl rfl rfl rfl rfl (by decide)) rfl rfl rfl ?_
      | refine LOps.valG (LVal.load hD rfl rfl (by first | assumption | exact box_new _ _ _ | exact box_set _ _ _ | (simp only [box_new, box_set, box_row, box_new_ne, box_set_ne, ne_eq, not_false_eq_true, *]; done) | (simp only [box_new, box_set, box_row, box_new_ne, box_set_ne, ne_eq, not_false_eq_true, *]; rfl)) rfl rfl) rfl rfl rfl ?_
      | refine LOps.valG (LVal.indexMap hD rfl rfl rfl rfl rfl rfl (by first | assumption | omega) rfl) rfl rfl rfl ?_
      | refine LOps.valG (LVal.loadRo hD rfl rfl rfl rfl) rfl rfl rfl ?_
      | refine LOps.valG (LVal.fieldAddrRo hD rfl rfl rfl rfl rfl rfl (by decide)) rfl rfl rfl ?_
      | refine LOps.valG (LVal.field hD rfl rfl rfl rfl rfl rfl rfl) rfl rfl rfl ?_
      | refine LOps.valG (LVal.buildSlice1 hD rfl rfl rfl rfl rfl rfl rfl rfl rfl rfl) rfl rfl rfl ?_
      | refine LOps.valG (LVal.build hD rfl rfl rfl rfl rfl rfl rfl) rfl rfl rfl ?_
      | refine LOps.valG (LVal.buildSlice hD rfl rfl rfl rfl rfl rfl rfl rfl rfl rfl) rfl rfl rfl ?_
      | refine LOps.valG (LVal.takeMap hD rfl rfl rfl rfl rfl rfl (by first | assumption | omega) rfl (fun _ _ => rfl)) rfl rfl rfl ?_
      | refine LOps.valG (LVal.dropMap hD rfl rfl rfl rfl rfl rfl (by first | assumption | omega) rfl (fun _ _ => rfl)) rfl rfl rfl ?_
      | refine LOps.valG (LVal.cutMap hD rfl rfl rfl rfl rfl rfl rfl (by first | assumption | omega) (by first | assumption | omega) rfl (fun _ _ => rfl)) rfl rfl rfl ?_
      | refine LOps.valG (LVal.move2 rfl rfl) rfl rfl rfl ?_
      | refine LOps.valG (LVal.assign2 rfl rfl) rfl rfl rfl ?_
      | refine LOps.valG (LVal.move (.inl rfl)) rfl rfl rfl ?_
      | refine LOps.valG (LVal.move (.inr rfl)) rfl rfl rfl ?_
      | (refine LOps.do0 (LDo.store hD rfl rfl (by first | assumption | exact box_new _ _ _ | exact box_set _ _ _ | (simp only [box_new, box_set, box_row, box_new_ne, box_set_ne, ne_eq, not_false_eq_true, *]; done) | (simp only [box_new, box_set, box_row, box_new_ne, box_set_ne, ne_eq, not_false_eq_true, *]; rfl)) rfl rfl rfl rfl) rfl rfl ?_; rintro _ _ ⟨rfl, rfl⟩))
    refine LOps.do (LDo.appendN hD rfl rfl rfl rfl rfl rfl rfl rfl rfl (show _ = k by simp; omega) (iList_len (U.drop (k + 1))) (hown1.ofN (by simp; omega)) (iList_one _) (by simp; omega)) rfl rfl rfl ?_
    rintro _ S2 ⟨o2, rfl, hown2, hup2, hnew2⟩
    have hle2 := hle1.upto hup2 hx1
    have hx2 := hx1.next hle1 hnew2
    have hb2 := hup2.box _ _ hb1
    clear hb1
    repeat (first
      | (refine LOps.do (LDo.oneSlice hD rfl rfl rfl rfl rfl rfl rfl rfl rfl rfl) rfl rfl rfl ?_; rintro _ _ ⟨bs, hbs, rfl, rfl⟩)
      | refine LOps.nil ?_
      | refine andThen_normal ?_
      | refine andThen_exit ?_
      | refine andThen_ret ?_
      | refine inBlock_normal ?_
      | refine inBlock_ret ?_
      | refine inBlock_here ?_
      | refine inBlock_out rfl ?_
      | refine LWp.seq ?_
      | refine LWp.region ?_
      | refine LWp.block ?_
      | refine LWp.exit ?_
      | refine LWp.ret ?_
      | refine LWp.skip ?_
      | refine LOps.val (LVal.move1 rfl rfl) rfl rfl rfl ?_
      | refine LOps.val (LVal.assign1 rfl rfl) rfl rfl rfl ?_
      | refine LOps.val (LVal.len hD rfl rfl rfl rfl) rfl rfl rfl ?_
      | refine LOps.val (LVal.lenStr hD rfl rfl rfl rfl) rfl rfl rfl ?_
      | refine LOps.val (LVal.add64 rfl rfl rfl (by omega)) rfl rfl rfl ?_
      | refine LOps.val (LVal.sub64 rfl rfl rfl (by omega)) rfl rfl rfl ?_
      | refine LOps.val (LVal.addU64 rfl rfl rfl (by omega)) rfl rfl rfl ?_
      | refine LOps.val (LVal.subU64 rfl rfl rfl (by omega)) rfl rfl rfl ?_
      | refine LOps.val (LVal.mulU64 rfl rfl rfl (by omega)) rfl rfl rfl ?_
      | refine LOps.val (LVal.remI rfl rfl rfl (by omega)) rfl rfl rfl ?_
      | refine LOps.val (LVal.quoU64 rfl rfl rfl (by omega)) rfl rfl rfl ?_
      | refine LOps.val (LVal.quo64 rfl rfl rfl (by omega)) rfl rfl rfl ?_
      | refine LOps.val (LVal.mul64 rfl rfl rfl (by omega)) rfl rfl rfl ?_
      | refine LOps.val (LVal.conv64 hD rfl rfl rfl rfl rfl (by omega)) rfl rfl rfl ?_
      | refine LOps.val (LVal.convU64 hD rfl rfl rfl rfl rfl (by omega)) rfl rfl rfl ?_
      | refine LOps.val (LVal.neqSame hD rfl rfl rfl) rfl rfl rfl ?_
      | refine LOps.val (LVal.neqSameB hD rfl rfl rfl rfl rfl) rfl rfl rfl ?_
      | refine LOps.val (LVal.binOp hD rfl rfl rfl rfl) rfl rfl rfl ?_
      | refine LOps.val (LVal.unOp rfl rfl rfl) rfl rfl rfl ?_
      | refine LOps.val (LVal.pick rfl rfl) rfl rfl rfl ?_
      | refine LOps.val (LVal.extract rfl rfl rfl) rfl rfl rfl ?_
      | refine LOps.val (LVal.convInt hD rfl rfl rfl rfl rfl) rfl rfl rfl ?_
      | refine LOps.val (LVal.fieldAddr hD rfl rfl rfl rfl rfl rfl (by decide)) rfl rfl rfl ?_
      | refine LOps.val (LVal.load hD rfl rfl (by first | assumption | exact box_new _ _ _ | exact box_set _ _ _ | (simp only [box_new, box_set, box_row, box_new_ne, box_set_ne, ne_eq, not_false_eq_true, *]; done) | (simp only [box_new, box_set, box_row, box_new_ne, box_set_ne, ne_eq, not_false_eq_true, *]; rfl)) rfl rfl) rfl rfl rfl ?_
      | refine LOps.val (LVal.indexMap hD rfl rfl rfl rfl rfl rfl (by first | assumption | omega) rfl) rfl rfl rfl ?_
      | refine LOps.val (LVal.loadRo hD rfl rfl rfl rfl) rfl rfl rfl ?_
      | refine LOps.val (LVal.fieldAddrRo hD rfl rfl rfl rfl rfl rfl (by decide)) rfl rfl rfl ?_
      | refine LOps.val (LVal.field hD rfl rfl rfl rfl rfl rfl rfl) rfl rfl rfl ?_
      | refine LOps.val (LVal.buildSlice1 hD rfl rfl rfl rfl rfl rfl rfl rfl rfl rfl) rfl rfl rfl ?_
      | refine LOps.val (LVal.build hD rfl rfl rfl rfl rfl rfl rfl) rfl rfl rfl ?_
      | refine LOps.val (LVal.buildSlice hD rfl rfl rfl rfl rfl rfl rfl rfl rfl rfl) rfl rfl rfl ?_
      | refine LOps.val (LVal.takeMap hD rfl rfl rfl rfl rfl rfl (by first | assumption | omega) rfl (fun _ _ => rfl)) rfl rfl rfl ?_
      | refine LOps.val (LVal.dropMap hD rfl rfl rfl rfl rfl rfl (by first | assumption | omega) rfl (fun _ _ => rfl)) rfl rfl rfl ?_
      | refine LOps.val (LVal.cutMap hD rfl rfl rfl rfl rfl rfl rfl (by first | assumption | omega) (by first | assumption | omega) rfl (fun _ _ => rfl)) rfl rfl rfl ?_
      | refine LOps.val (LVal.move2 rfl rfl) rfl rfl rfl ?_
      | refine LOps.val (LVal.assign2 rfl rfl) rfl rfl rfl ?_
      | refine LOps.val (LVal.move (.inl rfl)) rfl rfl rfl ?_
      | refine LOps.val (LVal.move (.inr rfl)) rfl rfl rfl ?_
      | refine LOps.out rfl rfl rfl ?_
      | refine LOps.valG (LVal.move1 rfl rfl) rfl rfl rfl ?_
      | refine LOps.valG (LVal.assign1 rfl rfl) rfl rfl rfl ?_
      | refine LOps.valG (LVal.len hD rfl rfl rfl rfl) rfl rfl rfl ?_
      | refine LOps.valG (LVal.lenStr hD rfl rfl rfl rfl) rfl rfl rfl ?_
      | refine LOps.valG (LVal.add64 rfl rfl rfl (by omega)) rfl rfl rfl ?_
      | refine LOps.valG (LVal.sub64 rfl rfl rfl (by omega)) rfl rfl rfl ?_
      | refine LOps.valG (LVal.addU64 rfl rfl rfl (by omega)) rfl rfl rfl ?_
      | refine LOps.valG (LVal.subU64 rfl rfl rfl (by omega)) rfl rfl rfl ?_
      | refine LOps.valG (LVal.mulU64 rfl rfl rfl (by omega)) rfl rfl rfl ?_
      | refine LOps.valG (LVal.remI rfl rfl rfl (by omega)) rfl rfl rfl ?_
      | refine LOps.valG (LVal.quoU64 rfl rfl rfl (by omega)) rfl rfl rfl ?_
      | refine LOps.valG (LVal.quo64 rfl rfl rfl (by omega)) rfl rfl rfl ?_
      | refine LOps.valG (LVal.mul64 rfl rfl rfl (by omega)) rfl rfl rfl ?_
      | refine LOps.valG (LVal.conv64 hD rfl rfl rfl rfl rfl (by omega)) rfl rfl rfl ?_
      | refine LOps.valG (LVal.convU64 hD rfl rfl rfl rfl rfl (by omega)) rfl rfl rfl ?_
      | refine LOps.valG (LVal.neqSame hD rfl rfl rfl) rfl rfl rfl ?_
      | refine LOps.valG (LVal.neqSameB hD rfl rfl rfl rfl rfl) rfl rfl rfl ?_
      | refine LOps.valG (LVal.binOp hD rfl rfl rfl rfl) rfl rfl rfl ?_
      | refine LOps.valG (LVal.unOp rfl rfl rfl) rfl rfl rfl ?_
      | refine LOps.valG (LVal.pick rfl rfl) rfl rfl rfl ?_
      | refine LOps.valG (LVal.extract rfl rfl rfl) rfl rfl rfl ?_
      | refine LOps.valG (LVal.convInt hD rfl rfl rfl rfl rfl) rfl rfl rfl ?_
      | refine LOps.valG (LVal.fieldAddr hD rfl rfl rfl rfl rfl rfl (by decide)) rfl rfl rfl ?_
      | refine LOps.valG (LVal.load hD rfl rfl (by first | assumption | exact box_new _ _ _ | exact box_set _ _ _ | (simp only [box_new, box_set, box_row, box_new_ne, box_set_ne, ne_eq, not_false_eq_true, *]; done) | (simp only [box_new, box_set, box_row, box_new_ne, box_set_ne, ne_eq, not_false_eq_true, *]; rfl)) rfl rfl) rfl rfl rfl ?_
      | refine LOps.valG (LVal.indexMap hD rfl rfl rfl rfl rfl rfl (by first | assumption | omega) rfl) rfl rfl rfl ?_
      | refine LOps.valG (LVal.loadRo hD rfl rfl rfl rfl) rfl rfl rfl ?_
      | refine LOps.valG (LVal.fieldAddrRo hD rfl rfl rfl rfl rfl rfl (by decide)) rfl rfl rfl ?_
      | refine LOps.valG (LVal.field hD rfl rfl rfl rfl rfl rfl rfl) rfl rfl rfl ?_
      | refine LOps.valG (LVal.buildSlice1 hD rfl rfl rfl rfl rfl rfl rfl rfl rfl rfl) rfl rfl rfl ?_
      | refine LOps.valG (LVal.build hD rfl rfl rfl rfl rfl rfl rfl) rfl rfl rfl ?_
      | refine LOps.valG (LVal.buildSlice hD rfl rfl rfl rfl rfl rfl rfl rfl rfl rfl) rfl rfl rfl ?_
      | refine LOps.valG (LVal.takeMap hD rfl rfl rfl rfl rfl rfl (by first | assumption | omega) rfl (fun _ _ => rfl)) rfl rfl rfl ?_
      | refine LOps.valG (LVal.dropMap hD rfl rfl rfl rfl rfl rfl (by first | assumption | omega) rfl (fun _ _ => rfl)) rfl rfl rfl ?_
      | refine LOps.valG (LVal.cutMap hD rfl rfl rfl rfl rfl rfl rfl (by first | assumption | omega) (by first | assumption | omega) rfl (fun _ _ => rfl)) rfl rfl rfl ?_
      | refine LOps.valG (LVal.move2 rfl rfl) rfl rfl rfl ?_
      | refine LOps.valG (LVal.assign2 rfl rfl) rfl rfl rfl ?_
      | refine LOps.valG (LVal.move (.inl rfl)) rfl rfl rfl ?_
      | refine LOps.valG (LVal.move (.inr rfl)) rfl rfl rfl ?_
      | (refine LOps.do0 (LDo.store hD rfl rfl (by first | assumption | exact box_new _ _ _ | exact box_set _ _ _ | (simp only [box_new, box_set, box_row, box_new_ne, box_set_ne, ne_eq, not_false_eq_true, *]; done) | (simp only [box_new, box_set, box_row, box_new_ne, box_set_ne, ne_eq, not_false_eq_true, *]; rfl)) rfl rfl rfl rfl) rfl rfl ?_; rintro _ _ ⟨rfl, rfl⟩))
    refine LOps.do (LDo.appendN hD rfl rfl rfl rfl rfl rfl rfl rfl rfl (show _ = 1 from rfl) (iList_len F) (.new _ _ _ _) (iList_one _) (by omega)) rfl rfl rfl ?_
    rintro _ S3 ⟨o3, rfl, hown3, hup3, hnew3⟩
    have hle3 := (hle2.setBox hbw.box [.sl o2 ([] ++ iList (U.take k) ++ iList (U.drop (k + 1))), .sl .sh (iList F)]).newRow hbs 3 1 |>.upto hup3 (Out.fresh (hle2.setBox hbw.box _) hbs)
    have hb3 := hup3.box bw [.sl o2 ([] ++ iList (U.take k) ++ iList (U.drop (k + 1))), .sl .sh (iList F)] (box_set _ _ _)
    repeat (first
      | refine LOps.nil ?_
      | refine andThen_normal ?_
      | refine andThen_exit ?_
      | refine andThen_ret ?_
      | refine inBlock_normal ?_
      | refine inBlock_ret ?_
      | refine inBlock_here ?_
      | refine inBlock_out rfl ?_
      | refine LWp.seq ?_
      | refine LWp.region ?_
      | refine LWp.block ?_
      | refine LWp.exit ?_
      | refine LWp.ret ?_
      | refine LWp.skip ?_
      | refine LOps.val (LVal.move1 rfl rfl) rfl rfl rfl ?_
      | refine LOps.val (LVal.assign1 rfl rfl) rfl rfl rfl ?_
      | refine LOps.val (LVal.len hD rfl rfl rfl rfl) rfl rfl rfl ?_
      | refine LOps.val (LVal.lenStr hD rfl rfl rfl rfl) rfl rfl rfl ?_
      | refine LOps.val (LVal.add64 rfl rfl rfl (by omega)) rfl rfl rfl ?_
      | refine LOps.val (LVal.sub64 rfl rfl rfl (by omega)) rfl rfl rfl ?_
      | refine LOps.val (LVal.addU64 rfl rfl rfl (by omega)) rfl rfl rfl ?_
      | refine LOps.val (LVal.subU64 rfl rfl rfl (by omega)) rfl rfl rfl ?_
      | refine LOps.val (LVal.mulU64 rfl rfl rfl (by omega)) rfl rfl rfl ?_
      | refine LOps.val (LVal.remI rfl rfl rfl (by omega)) rfl rfl rfl ?_
      | refine LOps.val (LVal.quoU64 rfl rfl rfl (by omega)) rfl rfl rfl ?_
      | refine LOps.val (LVal.quo64 rfl rfl rfl (by omega)) rfl rfl rfl ?_
      | refine LOps.val (LVal.mul64 rfl rfl rfl (by omega)) rfl rfl rfl ?_
      | refine LOps.val (LVal.conv64 hD rfl rfl rfl rfl rfl (by omega)) rfl rfl rfl ?_
      | refine LOps.val (LVal.convU64 hD rfl rfl rfl rfl rfl (by omega)) rfl rfl rfl ?_
      | refine LOps.val (LVal.neqSame hD rfl rfl rfl) rfl rfl rfl ?_
      | refine LOps.val (LVal.neqSameB hD rfl rfl rfl rfl rfl) rfl rfl rfl ?_
      | refine LOps.val (LVal.binOp hD rfl rfl rfl rfl) rfl rfl rfl ?_
      | refine LOps.val (LVal.unOp rfl rfl rfl) rfl rfl rfl ?_
      | refine LOps.val (LVal.pick rfl rfl) rfl rfl rfl ?_
      | refine LOps.val (LVal.extract rfl rfl rfl) rfl rfl rfl ?_
      | refine LOps.val (LVal.convInt hD rfl rfl rfl rfl rfl) rfl rfl rfl ?_
      | refine LOps.val (LVal.fieldAddr hD rfl rfl rfl rfl rfl rfl (by decide)) rfl rfl rfl ?_
      | refine LOps.val (LVal.load hD rfl rfl (by first | assumption | exact box_new _ _ _ | exact box_set _ _ _ | (simp only [box_new, box_set, box_row, box_new_ne, box_set_ne, ne_eq, not_false_eq_true, *]; done) | (simp only [box_new, box_set, box_row, box_new_ne, box_set_ne, ne_eq, not_false_eq_true, *]; rfl)) rfl rfl) rfl rfl rfl ?_
      | refine LOps.val (LVal.indexMap hD rfl rfl rfl rfl rfl rfl (by first | assumption | omega) rfl) rfl rfl rfl ?_
      | refine LOps.val (LVal.loadRo hD rfl rfl rfl rfl) rfl rfl rfl ?_
      | refine LOps.val (LVal.fieldAddrRo hD rfl rfl rfl rfl rfl rfl (by decide)) rfl rfl rfl ?_
      | refine LOps.val (LVal.field hD rfl rfl rfl rfl rfl rfl rfl) rfl rfl rfl ?_
      | refine LOps.val (LVal.buildSlice1 hD rfl rfl rfl rfl rfl rfl rfl rfl rfl rfl) rfl rfl rfl ?_
      | refine LOps.val (LVal.build hD rfl rfl rfl rfl rfl rfl rfl) rfl rfl rfl ?_
      | refine LOps.val (LVal.buildSlice hD rfl rfl rfl rfl rfl rfl rfl rfl rfl rfl) rfl rfl rfl ?_
      | refine LOps.val (LVal.takeMap hD rfl rfl rfl rfl rfl rfl (by first | assumption | omega) rfl (fun _ _ => rfl)) rfl rfl rfl ?_
      | refine LOps.val (LVal.dropMap hD rfl rfl rfl rfl rfl rfl (by first | assumption | omega) rfl (fun _ _ => rfl)) rfl rfl rfl ?_
      | refine LOps.val (LVal.cutMap hD rfl rfl rfl rfl rfl rfl rfl (by first | assumption | omega) (by first | assumption | omega) rfl (fun _ _ => rfl)) rfl rfl rfl ?_
      | refine LOps.val (LVal.move2 rfl rfl) rfl rfl rfl ?_
      | refine LOps.val (LVal.assign2 rfl rfl) rfl rfl rfl ?_
      | refine LOps.val (LVal.move (.inl rfl)) rfl rfl rfl ?_
      | refine LOps.val (LVal.move (.inr rfl)) rfl rfl rfl ?_
      | refine LOps.out rfl rfl rfl ?_
      | refine LOps.valG (LVal.move1 rfl rfl) rfl rfl rfl ?_
      | refine LOps.valG (LVal.assign1 rfl rfl) rfl rfl rfl ?_
      | refine LOps.valG (LVal.len hD rfl rfl rfl rfl) rfl rfl rfl ?_
      | refine LOps.valG (LVal.lenStr hD rfl rfl rfl rfl) rfl rfl rfl ?_
      | refine LOps.valG (LVal.add64 rfl rfl rfl (by omega)) rfl rfl rfl ?_
      | refine LOps.valG (LVal.sub64 rfl rfl rfl (by omega)) rfl rfl rfl ?_
      | refine LOps.valG (LVal.addU64 rfl rfl rfl (by omega)) rfl rfl rfl ?_
      | refine LOps.valG (LVal.subU64 rfl rfl rfl (by omega)) rfl rfl rfl ?_
      | refine LOps.valG (LVal.mulU64 rfl rfl rfl (by omega)) rfl rfl rfl ?_
      | refine LOps.valG (LVal.remI rfl rfl rfl (by omega)) rfl rfl rfl ?_
      | refine LOps.valG (LVal.quoU64 rfl rfl rfl (by omega)) rfl rfl rfl ?_
      | refine LOps.valG (LVal.quo64 rfl rfl rfl (by omega)) rfl rfl rfl ?_
      | refine LOps.valG (LVal.mul64 rfl rfl rfl (by omega)) rfl rfl rfl ?_
      | refine LOps.valG (LVal.conv64 hD rfl rfl rfl rfl rfl (by omega)) rfl rfl rfl ?_
      | refine LOps.valG (LVal.convU64 hD rfl rfl rfl rfl rfl (by omega)) rfl rfl rfl ?_
      | refine LOps.valG (LVal.neqSame hD rfl rfl rfl) rfl rfl rfl ?_
      | refine LOps.valG (LVal.neqSameB hD rfl rfl rfl rfl rfl) rfl rfl rfl ?_
      | refine LOps.valG (LVal.binOp hD rfl rfl rfl rfl) rfl rfl rfl ?_
      | refine LOps.valG (LVal.unOp rfl rfl rfl) rfl rfl rfl ?_
      | refine LOps.valG (LVal.pick rfl rfl) rfl rfl rfl ?_
      | refine LOps.valG (LVal.extract rfl rfl rfl) rfl rfl rfl ?_
      | refine LOps.valG (LVal.convInt hD rfl rfl rfl rfl rfl) rfl rfl rfl ?_
      | refine LOps.valG (LVal.fieldAddr hD rfl rfl rfl rfl rfl rfl (by decide)) rfl rfl rfl ?_
      | refine LOps.valG (LVal.load hD rfl rfl (by first | assumption | exact box_new _ _ _ | exact box_set _ _ _ | (simp only [box_new, box_set, box_row, box_new_ne, box_set_ne, ne_eq, not_false_eq_true, *]; done) | (simp only [box_new, box_set, box_row, box_new_ne, box_set_ne, ne_eq, not_false_eq_true, *]; rfl)) rfl rfl) rfl rfl rfl ?_
      | refine LOps.valG (LVal.indexMap hD rfl rfl rfl rfl rfl rfl (by first | assumption | omega) rfl) rfl rfl rfl ?_
      | refine LOps.valG (LVal.loadRo hD rfl rfl rfl rfl) rfl rfl rfl ?_
      | refine LOps.valG (LVal.fieldAddrRo hD rfl rfl rfl rfl rfl rfl (by decide)) rfl rfl rfl ?_
      | refine LOps.valG (LVal.field hD rfl rfl rfl rfl rfl rfl rfl) rfl rfl rfl ?_
      | refine LOps.valG (LVal.buildSlice1 hD rfl rfl rfl rfl rfl rfl rfl rfl rfl rfl) rfl rfl rfl ?_
      | refine LOps.valG (LVal.build hD rfl rfl rfl rfl rfl rfl rfl) rfl rfl rfl ?_
      | refine LOps.valG (LVal.buildSlice hD rfl rfl rfl rfl rfl rfl rfl rfl rfl rfl) rfl rfl rfl ?_
      | refine LOps.valG (LVal.takeMap hD rfl rfl rfl rfl rfl rfl (by first | assumption | omega) rfl (fun _ _ => rfl)) rfl rfl rfl ?_
      | refine LOps.valG (LVal.dropMap hD rfl rfl rfl rfl rfl rfl (by first | assumption | omega) rfl (fun _ _ => rfl)) rfl rfl rfl ?_
      | refine LOps.valG (LVal.cutMap hD rfl rfl rfl rfl rfl rfl rfl (by first | assumption | omega) (by first | assumption | omega) rfl (fun _ _ => rfl)) rfl rfl rfl ?_
      | refine LOps.valG (LVal.move2 rfl rfl) rfl rfl rfl ?_
      | refine LOps.valG (LVal.assign2 rfl rfl) rfl rfl rfl ?_
      | refine LOps.valG (LVal.move (.inl rfl)) rfl rfl rfl ?_
      | refine LOps.valG (LVal.move (.inr rfl)) rfl rfl rfl ?_
      | (refine LOps.do0 (LDo.store hD rfl rfl (by first | assumption | exact box_new _ _ _ | exact box_set _ _ _ | (simp only [box_new, box_set, box_row, box_new_ne, box_set_ne, ne_eq, not_false_eq_true, *]; done) | (simp only [box_new, box_set, box_row, box_new_ne, box_set_ne, ne_eq, not_false_eq_true, *]; rfl)) rfl rfl rfl rfl) rfl rfl ?_; rintro _ _ ⟨rfl, rfl⟩))
    have e : [] ++ iList (U.take k) ++ iList (U.drop (k + 1)) = iList (U.take k ++ U.drop (k + 1)) := by simp
    have e2 : [[iv (U[k] : Nat)]] ++ iList F = iList (nib p k :: F) := by rw [hUk]; simp
    have hlt := slots_lt p
    refine LOps.valG (LVal.call rfl (show _ = [TV.agg [.sl .sh (iList (U.take k ++ U.drop (k + 1))), .sl .sh (iList (nib p k :: F))]] by rw [← e, ← e2]; rfl) (by rw [hP]; exact Try.func25) rfl (by decide)
      (put_F hP _ _ (by simp; omega) (fun x hx => ?_))) rfl rfl rfl ?_
    · rw [hU, hF] at hx
      simp only [List.mem_append, List.mem_cons] at hx
      rcases hx with (hx | hx) | rfl | hx
      · exact hlt x (List.mem_of_mem_take (List.mem_of_mem_take hx))
      · exact hlt x (List.mem_of_mem_take (List.mem_of_mem_drop hx))
      · exact Nat.mod_lt _ (by omega)
      · exact hlt x (List.mem_of_mem_drop hx)
    repeat (first
      | refine LOps.nil ?_
      | refine andThen_normal ?_
      | refine andThen_exit ?_
      | refine andThen_ret ?_
      | refine inBlock_normal ?_
      | refine inBlock_ret ?_
      | refine inBlock_here ?_
      | refine inBlock_out rfl ?_
      | refine LWp.seq ?_
      | refine LWp.region ?_
      | refine LWp.block ?_
      | refine LWp.exit ?_
      | refine LWp.ret ?_
      | refine LWp.skip ?_
      | refine LOps.val (LVal.move1 rfl rfl) rfl rfl rfl ?_
      | refine LOps.val (LVal.assign1 rfl rfl) rfl rfl rfl ?_
      | refine LOps.val (LVal.len hD rfl rfl rfl rfl) rfl rfl rfl ?_
      | refine LOps.val (LVal.lenStr hD rfl rfl rfl rfl) rfl rfl rfl ?_
      | refine LOps.val (LVal.add64 rfl rfl rfl (by omega)) rfl rfl rfl ?_
      | refine LOps.val (LVal.sub64 rfl rfl rfl (by omega)) rfl rfl rfl ?_
      | refine LOps.val (LVal.addU64 rfl rfl rfl (by omega)) rfl rfl rfl ?_
      | refine LOps.val (LVal.subU64 rfl rfl rfl (by omega)) rfl rfl rfl ?_
      | refine LOps.val (LVal.mulU64 rfl rfl rfl (by omega)) rfl rfl rfl ?_
      | refine LOps.val (LVal.remI rfl rfl rfl (by omega)) rfl rfl rfl ?_
      | refine LOps.val (LVal.quoU64 rfl rfl rfl (by omega)) rfl rfl rfl ?_
      | refine LOps.val (LVal.quo64 rfl rfl rfl (by omega)) rfl rfl rfl ?_
      | refine LOps.val (LVal.mul64 rfl rfl rfl (by omega)) rfl rfl rfl ?_
      | refine LOps.val (LVal.conv64 hD rfl rfl rfl rfl rfl (by omega)) rfl rfl rfl ?_
      | refine LOps.val (LVal.convU64 hD rfl rfl rfl rfl rfl (by omega)) rfl rfl rfl ?_
      | refine LOps.val (LVal.neqSame hD rfl rfl rfl) rfl rfl rfl ?_
      | refine LOps.val (LVal.neqSameB hD rfl rfl rfl rfl rfl) rfl rfl rfl ?_
      | refine LOps.val (LVal.binOp hD rfl rfl rfl rfl) rfl rfl rfl ?_
      | refine LOps.val (LVal.unOp rfl rfl rfl) rfl rfl rfl ?_
      | refine LOps.val (LVal.pick rfl rfl) rfl rfl rfl ?_
      | refine LOps.val (LVal.extract rfl rfl rfl) rfl rfl rfl ?_
      | refine LOps.val (LVal.convInt hD rfl rfl rfl rfl rfl) rfl rfl rfl ?_
      | refine LOps.val (LVal.fieldAddr hD rfl rfl rfl rfl rfl rfl (by decide)) rfl rfl rfl ?_
      | refine LOps.val (LVal.load hD rfl rfl (by first | assumption | exact box_new _ _ _ | exact box_set _ _ _ | (simp only [box_new, box_set, box_row, box_new_ne, box_set_ne, ne_eq, not_false_eq_true, *]; done) | (simp only [box_new, box_set, box_row, box_new_ne, box_set_ne, ne_eq, not_false_eq_true, *]; rfl)) rfl rfl) rfl rfl rfl ?_
      | refine LOps.val (LVal.indexMap hD rfl rfl rfl rfl rfl rfl (by first | assumption | omega) rfl) rfl rfl rfl ?_
      | refine LOps.val (LVal.loadRo hD rfl rfl rfl rfl) rfl rfl rfl ?_
      | refine LOps.val (LVal.fieldAddrRo hD rfl rfl rfl rfl rfl rfl (by decide)) rfl rfl rfl ?_
      | refine LOps.val (LVal.field hD rfl rfl rfl rfl rfl rfl rfl) rfl rfl rfl ?_
      | refine LOps.val (LVal.buildSlice1 hD rfl rfl rfl rfl rfl rfl rfl rfl rfl rfl) rfl rfl rfl ?_
      | refine LOps.val (LVal.build hD rfl rfl rfl rfl rfl rfl rfl) rfl rfl rfl ?_
      | refine LOps.val (LVal.buildSlice hD rfl rfl rfl rfl rfl rfl rfl rfl rfl rfl) rfl rfl rfl ?_
      | refine LOps.val (LVal.takeMap hD rfl rfl rfl rfl rfl rfl (by first | assumption | omega) rfl (fun _ _ => rfl)) rfl rfl rfl ?_
      | refine LOps.val (LVal.dropMap hD rfl rfl rfl rfl rfl rfl (by first | assumption | omega) rfl (fun _ _ => rfl)) rfl rfl rfl ?_
      | refine LOps.val (LVal.cutMap hD rfl rfl rfl rfl rfl rfl rfl (by first | assumption | omega) (by first | assumption | omega) rfl (fun _ _ => rfl)) rfl rfl rfl ?_
      | refine LOps.val (LVal.move2 rfl rfl) rfl rfl rfl ?_
      | refine LOps.val (LVal.assign2 rfl rfl) rfl rfl rfl ?_
      | refine LOps.val (LVal.move (.inl rfl)) rfl rfl rfl ?_
      | refine LOps.val (LVal.move (.inr rfl)) rfl rfl rfl ?_
      | refine LOps.out rfl rfl rfl ?_
      | refine LOps.valG (LVal.move1 rfl rfl) rfl rfl rfl ?_
      | refine LOps.valG (LVal.assign1 rfl rfl) rfl rfl rfl ?_
      | refine LOps.valG (LVal.len hD rfl rfl rfl rfl) rfl rfl rfl ?_
      | refine LOps.valG (LVal.lenStr hD rfl rfl rfl rfl) rfl rfl rfl ?_
      | refine LOps.valG (LVal.add64 rfl rfl rfl (by omega)) rfl rfl rfl ?_
      | refine LOps.valG (LVal.sub64 rfl rfl rfl (by omega)) rfl rfl rfl ?_
      | refine LOps.valG (LVal.addU64 rfl rfl rfl (by omega)) rfl rfl rfl ?_
      | refine LOps.valG (LVal.subU64 rfl rfl rfl (by omega)) rfl rfl rfl ?_
      | refine LOps.valG (LVal.mulU64 rfl rfl rfl (by omega)) rfl rfl rfl ?_
      | refine LOps.valG (LVal.remI rfl rfl rfl (by omega)) rfl rfl rfl ?_
      | refine LOps.valG (LVal.quoU64 rfl rfl rfl (by omega)) rfl rfl rfl ?_
      | refine LOps.valG (LVal.quo64 rfl rfl rfl (by omega)) rfl rfl rfl ?_
      | refine LOps.valG (LVal.mul64 rfl rfl rfl (by omega)) rfl rfl rfl ?_
      | refine LOps.valG (LVal.conv64 hD rfl rfl rfl rfl rfl (by omega)) rfl rfl rfl ?_
      | refine LOps.valG (LVal.convU64 hD rfl rfl rfl rfl rfl (by omega)) rfl rfl rfl ?_
      | refine LOps.valG (LVal.neqSame hD rfl rfl rfl) rfl rfl rfl ?_
      | refine LOps.valG (LVal.neqSameB hD rfl rfl rfl rfl rfl) rfl rfl rfl ?_
      | refine LOps.valG (LVal.binOp hD rfl rfl rfl rfl) rfl rfl rfl ?_
      | refine LOps.valG (LVal.unOp rfl rfl rfl) rfl rfl rfl ?_
      | refine LOps.valG (LVal.pick rfl rfl) rfl rfl rfl ?_
      | refine LOps.valG (LVal.extract rfl rfl rfl) rfl rfl rfl ?_
      | refine LOps.valG (LVal.convInt hD rfl rfl rfl rfl rfl) rfl rfl rfl ?_
      | refine LOps.valG (LVal.fieldAddr hD rfl rfl rfl rfl rfl rfl (by decide)) rfl rfl rfl ?_
      | refine LOps.valG (LVal.load hD rfl rfl (by first | assumption | exact box_new _ _ _ | exact box_set _ _ _ | (simp only [box_new, box_set, box_row, box_new_ne, box_set_ne, ne_eq, not_false_eq_true, *]; done) | (simp only [box_new, box_set, box_row, box_new_ne, box_set_ne, ne_eq, not_false_eq_true, *]; rfl)) rfl rfl) rfl rfl rfl ?_
      | refine LOps.valG (LVal.indexMap hD rfl rfl rfl rfl rfl rfl (by first | assumption | omega) rfl) rfl rfl rfl ?_
      | refine LOps.valG (LVal.loadRo hD rfl rfl rfl rfl) rfl rfl rfl ?_
      | refine LOps.valG (LVal.fieldAddrRo hD rfl rfl rfl rfl rfl rfl (by decide)) rfl rfl rfl ?_
      | refine LOps.valG (LVal.field hD rfl rfl rfl rfl rfl rfl rfl) rfl rfl rfl ?_
      | refine LOps.valG (LVal.buildSlice1 hD rfl rfl rfl rfl rfl rfl rfl rfl rfl rfl) rfl rfl rfl ?_
      | refine LOps.valG (LVal.build hD rfl rfl rfl rfl rfl rfl rfl) rfl rfl rfl ?_
      | refine LOps.valG (LVal.buildSlice hD rfl rfl rfl rfl rfl rfl rfl rfl rfl rfl) rfl rfl rfl ?_
      | refine LOps.valG (LVal.takeMap hD rfl rfl rfl rfl rfl rfl (by first | assumption | omega) rfl (fun _ _ => rfl)) rfl rfl rfl ?_
      | refine LOps.valG (LVal.dropMap hD rfl rfl rfl rfl rfl rfl (by first | assumption | omega) rfl (fun _ _ => rfl)) rfl rfl rfl ?_
      | refine LOps.valG (LVal.cutMap hD rfl rfl rfl rfl rfl rfl rfl (by first | assumption | omega) (by first | assumption | omega) rfl (fun _ _ => rfl)) rfl rfl rfl ?_
      | refine LOps.valG (LVal.move2 rfl rfl) rfl rfl rfl ?_
      | refine LOps.valG (LVal.assign2 rfl rfl) rfl rfl rfl ?_
      | refine LOps.valG (LVal.move (.inl rfl)) rfl rfl rfl ?_
      | refine LOps.valG (LVal.move (.inr rfl)) rfl rfl rfl ?_
      | (refine LOps.do0 (LDo.store hD rfl rfl (by first | assumption | exact box_new _ _ _ | exact box_set _ _ _ | (simp only [box_new, box_set, box_row, box_new_ne, box_set_ne, ne_eq, not_false_eq_true, *]; done) | (simp only [box_new, box_set, box_row, box_new_ne, box_set_ne, ne_eq, not_false_eq_true, *]; rfl)) rfl rfl rfl rfl) rfl rfl ?_; rintro _ _ ⟨rfl, rfl⟩))
    refine ⟨_, (LRes.many rfl rfl (.cons (.tmp _) (.cons (.tmp _) (.cons (.tmp _) .nil)))).sh, ?_, hle3.setBox hbw.box _⟩
    have hw : wd (U.take k ++ U.drop (k + 1)).length ((U.take k ++ U.drop (k + 1)) ++ nib p k :: F) = remW p k := by
      rw [← remW_parts p k (by omega), ← hn, ← hU, ← hF]
      congr 1
      simp; omega
    have hR : remR p k = yesR (remW p k) (nib p k) := by
      unfold remR
      rw [if_pos ⟨rt_yes hr, by omega, by omega⟩]; rfl
    rw [hR, ← hw, ← hUk]; rfl
  · rw [ofR_no hr] at hof
    repeat (first
      | refine LOps.valG (LVal.call rfl rfl (by rw [hP]; exact Try.func18) rfl (by decide) hof) rfl rfl rfl ?_
      | refine LOps.nil ?_
      | refine andThen_normal ?_
      | refine andThen_exit ?_
      | refine andThen_ret ?_
      | refine inBlock_normal ?_
      | refine inBlock_ret ?_
      | refine inBlock_here ?_
      | refine inBlock_out rfl ?_
      | refine LWp.seq ?_
      | refine LWp.region ?_
      | refine LWp.block ?_
      | refine LWp.exit ?_
      | refine LWp.ret ?_
      | refine LWp.skip ?_
      | refine LOps.val (LVal.move1 rfl rfl) rfl rfl rfl ?_
      | refine LOps.val (LVal.assign1 rfl rfl) rfl rfl rfl ?_
      | refine LOps.val (LVal.len hD rfl rfl rfl rfl) rfl rfl rfl ?_
      | refine LOps.val (LVal.lenStr hD rfl rfl rfl rfl) rfl rfl rfl ?_
      | refine LOps.val (LVal.add64 rfl rfl rfl (by omega)) rfl rfl rfl ?_
      | refine LOps.val (LVal.sub64 rfl rfl rfl (by omega)) rfl rfl rfl ?_
      | refine LOps.val (LVal.addU64 rfl rfl rfl (by omega)) rfl rfl rfl ?_
      | refine LOps.val (LVal.subU64 rfl rfl rfl (by omega)) rfl rfl rfl ?_
      | refine LOps.val (LVal.mulU64 rfl rfl rfl (by omega)) rfl rfl rfl ?_
      | refine LOps.val (LVal.remI rfl rfl rfl (by omega)) rfl rfl rfl ?_
      | refine LOps.val (LVal.quoU64 rfl rfl rfl (by omega)) rfl rfl rfl ?_
      | refine LOps.val (LVal.quo64 rfl rfl rfl (by omega)) rfl rfl rfl ?_
      | refine LOps.val (LVal.mul64 rfl rfl rfl (by omega)) rfl rfl rfl ?_
      | refine LOps.val (LVal.conv64 hD rfl rfl rfl rfl rfl (by omega)) rfl rfl rfl ?_
      | refine LOps.val (LVal.convU64 hD rfl rfl rfl rfl rfl (by omega)) rfl rfl rfl ?_
      | refine LOps.val (LVal.neqSame hD rfl rfl rfl) rfl rfl rfl ?_
      | refine LOps.val (LVal.neqSameB hD rfl rfl rfl rfl rfl) rfl rfl rfl ?_
      | refine LOps.val (LVal.binOp hD rfl rfl rfl rfl) rfl rfl rfl ?_
      | refine LOps.val (LVal.unOp rfl rfl rfl) rfl rfl rfl ?_
      | refine LOps.val (LVal.pick rfl rfl) rfl rfl rfl ?_
      | refine LOps.val (LVal.extract rfl rfl rfl) rfl rfl rfl ?_
      | refine LOps.val (LVal.convInt hD rfl rfl rfl rfl rfl) rfl rfl rfl ?_
      | refine LOps.val (LVal.fieldAddr hD rfl rfl rfl rfl rfl rfl (by decide)) rfl rfl rfl ?_
      | refine LOps.val (LVal.load hD rfl rfl (by first | assumption | exact box_new _ _ _ | exact box_set _ _ _ | (simp only [box_new, box_set, box_row, box_new_ne, box_set_ne, ne_eq, not_false_eq_true, *]; done) | (simp only [box_new, box_set, box_row, box_new_ne, box_set_ne, ne_eq, not_false_eq_true, *]; rfl)) rfl rfl) rfl rfl rfl ?_
      | refine LOps.val (LVal.indexMap hD rfl rfl rfl rfl rfl rfl (by first | assumption | omega) rfl) rfl rfl rfl ?_
      | refine LOps.val (LVal.loadRo hD rfl rfl rfl rfl) rfl rfl rfl ?_
      | refine LOps.val (LVal.fieldAddrRo hD rfl rfl rfl rfl rfl rfl (by decide)) rfl rfl rfl ?_
      | refine LOps.val (LVal.field hD rfl rfl rfl rfl rfl rfl rfl) rfl rfl rfl ?_
      | refine LOps.val (LVal.buildSlice1 hD rfl rfl rfl rfl rfl rfl rfl rfl rfl rfl) rfl rfl rfl ?_
      | refine LOps.val (LVal.build hD rfl rfl rfl rfl rfl rfl rfl) rfl rfl rfl ?_
      | refine LOps.val (LVal.buildSlice hD rfl rfl rfl rfl rfl rfl rfl rfl rfl rfl) rfl rfl rfl ?_
      | refine LOps.val (LVal.takeMap hD rfl rfl rfl rfl rfl rfl (by first | assumption | omega) rfl (fun _ _ => rfl)) rfl rfl rfl ?_
      | refine LOps.val (LVal.dropMap hD rfl rfl rfl rfl rfl rfl (by first | assumption | omega) rfl (fun _ _ => rfl)) rfl rfl rfl ?_
      | refine LOps.val (LVal.cutMap hD rfl rfl rfl rfl rfl rfl rfl (by first | assumption | omega) (by first | assumption | omega) rfl (fun _ _ => rfl)) rfl rfl rfl ?_
      | refine LOps.val (LVal.move2 rfl rfl) rfl rfl rfl ?_
      | refine LOps.val (LVal.assign2 rfl rfl) rfl rfl rfl ?_
      | refine LOps.val (LVal.move (.inl rfl)) rfl rfl rfl ?_
      | refine LOps.val (LVal.move (.inr rfl)) rfl rfl rfl ?_
      | refine LOps.out rfl rfl rfl ?_
      | refine LOps.valG (LVal.move1 rfl rfl) rfl rfl rfl ?_
      | refine LOps.valG (LVal.assign1 rfl rfl) rfl rfl rfl ?_
      | refine LOps.valG (LVal.len hD rfl rfl rfl rfl) rfl rfl rfl ?_
      | refine LOps.valG (LVal.lenStr hD rfl rfl rfl rfl) rfl rfl rfl ?_
      | refine LOps.valG (LVal.add64 rfl rfl rfl (by omega)) rfl rfl rfl ?_
      | refine LOps.valG (LVal.sub64 rfl rfl rfl (by omega)) rfl rfl rfl ?_
      | refine LOps.valG (LVal.addU64 rfl rfl rfl (by omega)) rfl rfl rfl ?_
      | refine LOps.valG (LVal.subU64 rfl rfl rfl (by omega)) rfl rfl rfl ?_
      | refine LOps.valG (LVal.mulU64 rfl rfl rfl (by omega)) rfl rfl rfl ?_
      | refine LOps.valG (LVal.remI rfl rfl rfl (by omega)) rfl rfl rfl ?_
      | refine LOps.valG (LVal.quoU64 rfl rfl rfl (by omega)) rfl rfl rfl ?_
      | refine LOps.valG (LVal.quo64 rfl rfl rfl (by omega)) rfl rfl rfl ?_
      | refine LOps.valG (LVal.mul64 rfl rfl rfl (by omega)) rfl rfl rfl ?_
      | refine LOps.valG (LVal.conv64 hD rfl rfl rfl rfl rfl (by omega)) rfl rfl rfl ?_
      | refine LOps.valG (LVal.convU64 hD rfl rfl rfl rfl rfl (by omega)) rfl rfl rfl ?_
      | refine LOps.valG (LVal.neqSame hD rfl rfl rfl) rfl rfl rfl ?_
      | refine LOps.valG (LVal.neqSameB hD rfl rfl rfl rfl rfl) rfl rfl rfl ?_
      | refine LOps.valG (LVal.binOp hD rfl rfl rfl rfl) rfl rfl rfl ?_
      | refine LOps.valG (LVal.unOp rfl rfl rfl) rfl rfl rfl ?_
      | refine LOps.valG (LVal.pick rfl rfl) rfl rfl rfl ?_
      | refine LOps.valG (LVal.extract rfl rfl rfl) rfl rfl rfl ?_
      | refine LOps.valG (LVal.convInt hD rfl rfl rfl rfl rfl) rfl rfl rfl ?_
      | refine LOps.valG (LVal.fieldAddr hD rfl rfl rfl rfl rfl rfl (by decide)) rfl rfl rfl ?_
      | refine LOps.valG (LVal.load hD rfl rfl (by first | assumption | exact box_new _ _ _ | exact box_set _ _ _ | (simp only [box_new, box_set, box_row, box_new_ne, box_set_ne, ne_eq, not_false_eq_true, *]; done) | (simp only [box_new, box_set, box_row, box_new_ne, box_set_ne, ne_eq, not_false_eq_true, *]; rfl)) rfl rfl) rfl rfl rfl ?_
      | refine LOps.valG (LVal.indexMap hD rfl rfl rfl rfl rfl rfl (by first | assumption | omega) rfl) rfl rfl rfl ?_
      | refine LOps.valG (LVal.loadRo hD rfl rfl rfl rfl) rfl rfl rfl ?_
      | refine LOps.valG (LVal.fieldAddrRo hD rfl rfl rfl rfl rfl rfl (by decide)) rfl rfl rfl ?_
      | refine LOps.valG (LVal.field hD rfl rfl rfl rfl rfl rfl rfl) rfl rfl rfl ?_
      | refine LOps.valG (LVal.buildSlice1 hD rfl rfl rfl rfl rfl rfl rfl rfl rfl rfl) rfl rfl rfl ?_
      | refine LOps.valG (LVal.build hD rfl rfl rfl rfl rfl rfl rfl) rfl rfl rfl ?_
      | refine LOps.valG (LVal.buildSlice hD rfl rfl rfl rfl rfl rfl rfl rfl rfl rfl) rfl rfl rfl ?_
      | refine LOps.valG (LVal.takeMap hD rfl rfl rfl rfl rfl rfl (by first | assumption | omega) rfl (fun _ _ => rfl)) rfl rfl rfl ?_
      | refine LOps.valG (LVal.dropMap hD rfl rfl rfl rfl rfl rfl (by first | assumption | omega) rfl (fun _ _ => rfl)) rfl rfl rfl ?_
      | refine LOps.valG (LVal.cutMap hD rfl rfl rfl rfl rfl rfl rfl (by first | assumption | omega) (by first | assumption | omega) rfl (fun _ _ => rfl)) rfl rfl rfl ?_
      | refine LOps.valG (LVal.move2 rfl rfl) rfl rfl rfl ?_
      | refine LOps.valG (LVal.assign2 rfl rfl) rfl rfl rfl ?_
      | refine LOps.valG (LVal.move (.inl rfl)) rfl rfl rfl ?_
      | refine LOps.valG (LVal.move (.inr rfl)) rfl rfl rfl ?_
      | (refine LOps.do0 (LDo.store hD rfl rfl (by first | assumption | exact box_new _ _ _ | exact box_set _ _ _ | (simp only [box_new, box_set, box_row, box_new_ne, box_set_ne, ne_eq, not_false_eq_true, *]; done) | (simp only [box_new, box_set, box_row, box_new_ne, box_set_ne, ne_eq, not_false_eq_true, *]; rfl)) rfl rfl rfl rfl) rfl rfl ?_; rintro _ _ ⟨rfl, rfl⟩))
    refine LOps.do (LDo.alloc hD rfl rfl rfl) rfl rfl rfl ?_
    rintro _ _ ⟨bw, hbw, rfl, rfl⟩
    repeat (first
      | refine LOps.nil ?_
      | refine andThen_normal ?_
      | refine andThen_exit ?_
      | refine andThen_ret ?_
      | refine inBlock_normal ?_
      | refine inBlock_ret ?_
      | refine inBlock_here ?_
      | refine inBlock_out rfl ?_
      | refine LWp.seq ?_
      | refine LWp.region ?_
      | refine LWp.block ?_
      | refine LWp.exit ?_
      | refine LWp.ret ?_
      | refine LWp.skip ?_
      | refine LOps.val (LVal.move1 rfl rfl) rfl rfl rfl ?_
      | refine LOps.val (LVal.assign1 rfl rfl) rfl rfl rfl ?_
      | refine LOps.val (LVal.len hD rfl rfl rfl rfl) rfl rfl rfl ?_
      | refine LOps.val (LVal.lenStr hD rfl rfl rfl rfl) rfl rfl rfl ?_
      | refine LOps.val (LVal.add64 rfl rfl rfl (by omega)) rfl rfl rfl ?_
      | refine LOps.val (LVal.sub64 rfl rfl rfl (by omega)) rfl rfl rfl ?_
      | refine LOps.val (LVal.addU64 rfl rfl rfl (by omega)) rfl rfl rfl ?_
      | refine LOps.val (LVal.subU64 rfl rfl rfl (by omega)) rfl rfl rfl ?_
      | refine LOps.val (LVal.mulU64 rfl rfl rfl (by omega)) rfl rfl rfl ?_
      | refine LOps.val (LVal.remI rfl rfl rfl (by omega)) rfl rfl rfl ?_
      | refine LOps.val (LVal.quoU64 rfl rfl rfl (by omega)) rfl rfl rfl ?_
      | refine LOps.val (LVal.quo64 rfl rfl rfl (by omega)) rfl rfl rfl ?_
      | refine LOps.val (LVal.mul64 rfl rfl rfl (by omega)) rfl rfl rfl ?_
      | refine LOps.val (LVal.conv64 hD rfl rfl rfl rfl rfl (by omega)) rfl rfl rfl ?_
      | refine LOps.val (LVal.convU64 hD rfl rfl rfl rfl rfl (by omega)) rfl rfl rfl ?_
      | refine LOps.val (LVal.neqSame hD rfl rfl rfl) rfl rfl rfl ?_
      | refine LOps.val (LVal.neqSameB hD rfl rfl rfl rfl rfl) rfl rfl rfl ?_
      | refine LOps.val (LVal.binOp hD rfl rfl rfl rfl) rfl rfl rfl ?_
      | refine LOps.val (LVal.unOp rfl rfl rfl) rfl rfl rfl ?_
      | refine LOps.val (LVal.pick rfl rfl) rfl rfl rfl ?_
      | refine LOps.val (LVal.extract rfl rfl rfl) rfl rfl rfl ?_
      | refine LOps.val (LVal.convInt hD rfl rfl rfl rfl rfl) rfl rfl rfl ?_
      | refine LOps.val (LVal.fieldAddr hD rfl rfl rfl rfl rfl rfl (by decide)) rfl rfl rfl ?_
      | refine LOps.val (LVal.load hD rfl rfl (by first | assumption | exact box_new _ _ _ | exact box_set _ _ _ | (simp only [box_new, box_set, box_row, box_new_ne, box_set_ne, ne_eq, not_false_eq_true, *]; done) | (simp only [box_new, box_set, box_row, box_new_ne, box_set_ne, ne_eq, not_false_eq_true, *]; rfl)) rfl rfl) rfl rfl rfl ?_
      | refine LOps.val (LVal.indexMap hD rfl rfl rfl rfl rfl rfl (by first | assumption | omega) rfl) rfl rfl rfl ?_
      | refine LOps.val (LVal.loadRo hD rfl rfl rfl rfl) rfl rfl rfl ?_
      | refine LOps.val (LVal.fieldAddrRo hD rfl rfl rfl rfl rfl rfl (by decide)) rfl rfl rfl ?_
      | refine LOps.val (LVal.field hD rfl rfl rfl rfl rfl rfl rfl) rfl rfl rfl ?_
      | refine LOps.val (LVal.buildSlice1 hD rfl rfl rfl rfl rfl rfl rfl rfl rfl rfl) rfl rfl rfl ?_
      | refine LOps.val (LVal.build hD rfl rfl rfl rfl rfl rfl rfl) rfl rfl rfl ?_
      | refine LOps.val (LVal.buildSlice hD rfl rfl rfl rfl rfl rfl rfl rfl rfl rfl) rfl rfl rfl ?_
      | refine LOps.val (LVal.takeMap hD rfl rfl rfl rfl rfl rfl (by first | assumption | omega) rfl (fun _ _ => rfl)) rfl rfl rfl ?_
      | refine LOps.val (LVal.dropMap hD rfl rfl rfl rfl rfl rfl (by first | assumption | omega) rfl (fun _ _ => rfl)) rfl rfl rfl ?_
      | refine LOps.val (LVal.cutMap hD rfl rfl rfl rfl rfl rfl rfl (by first | assumption | omega) (by first | assumption | omega) rfl (fun _ _ => rfl)) rfl rfl rfl ?_
      | refine LOps.val (LVal.move2 rfl rfl) rfl rfl rfl ?_
      | refine LOps.val (LVal.assign2 rfl rfl) rfl rfl rfl ?_
      | refine LOps.val (LVal.move (.inl rfl)) rfl rfl rfl ?_
      | refine LOps.val (LVal.move (.inr rfl)) rfl rfl rfl ?_
      | refine LOps.out rfl rfl rfl ?_
      | refine LOps.valG (LVal.move1 rfl rfl) rfl rfl rfl ?_
      | refine LOps.valG (LVal.assign1 rfl rfl) rfl rfl rfl ?_
      | refine LOps.valG (LVal.len hD rfl rfl rfl rfl) rfl rfl rfl ?_
      | refine LOps.valG (LVal.lenStr hD rfl rfl rfl rfl) rfl rfl rfl ?_
      | refine LOps.valG (LVal.add64 rfl rfl rfl (by omega)) rfl rfl rfl ?_
      | refine LOps.valG (LVal.sub64 rfl rfl rfl (by omega)) rfl rfl rfl ?_
      | refine LOps.valG (LVal.addU64 rfl rfl rfl (by omega)) rfl rfl rfl ?_
      | refine LOps.valG (LVal.subU64 rfl rfl rfl (by omega)) rfl rfl rfl ?_
      | refine LOps.valG (LVal.mulU64 rfl rfl rfl (by omega)) rfl rfl rfl ?_
      | refine LOps.valG (LVal.remI rfl rfl rfl (by omega)) rfl rfl rfl ?_
      | refine LOps.valG (LVal.quoU64 rfl rfl rfl (by omega)) rfl rfl rfl ?_
      | refine LOps.valG (LVal.quo64 rfl rfl rfl (by omega)) rfl rfl rfl ?_
      | refine LOps.valG (LVal.mul64 rfl rfl rfl (by omega)) rfl rfl rfl ?_
      | refine LOps.valG (LVal.conv64 hD rfl rfl rfl rfl rfl (by omega)) rfl rfl rfl ?_
      | refine LOps.valG (LVal.convU64 hD rfl rfl rfl rfl rfl (by omega)) rfl rfl rfl ?_
      | refine LOps.valG (LVal.neqSame hD rfl rfl rfl) rfl rfl rfl ?_
      | refine LOps.valG (LVal.neqSameB hD rfl rfl rfl rfl rfl) rfl rfl rfl ?_
      | refine LOps.valG (LVal.binOp hD rfl rfl rfl rfl) rfl rfl rfl ?_
      | refine LOps.valG (LVal.unOp rfl rfl rfl) rfl rfl rfl ?_
      | refine LOps.valG (LVal.pick rfl rfl) rfl rfl rfl ?_
      | refine LOps.valG (LVal.extract rfl rfl rfl) rfl rfl rfl ?_
      | refine LOps.valG (LVal.convInt hD rfl rfl rfl rfl rfl) rfl rfl rfl ?_
      | refine LOps.valG (LVal.fieldAddr hD rfl rfl rfl rfl rfl rfl (by decide)) rfl rfl rfl ?_
      | refine LOps.valG (LVal.load hD rfl rfl (by first | assumption | exact box_new _ _ _ | exact box_set _ _ _ | (simp only [box_new, box_set, box_row, box_new_ne, box_set_ne, ne_eq, not_false_eq_true, *]; done) | (simp only [box_new, box_set, box_row, box_new_ne, box_set_ne, ne_eq, not_false_eq_true, *]; rfl)) rfl rfl) rfl rfl rfl ?_
      | refine LOps.valG (LVal.indexMap hD rfl rfl rfl rfl rfl rfl (by first | assumption | omega) rfl) rfl rfl rfl ?_
      | refine LOps.valG (LVal.loadRo hD rfl rfl rfl rfl) rfl rfl rfl ?_
      | refine LOps.valG (LVal.fieldAddrRo hD rfl rfl rfl rfl rfl rfl (by decide)) rfl rfl rfl ?_
      | refine LOps.valG (LVal.field hD rfl rfl rfl rfl rfl rfl rfl) rfl rfl rfl ?_
      | refine LOps.valG (LVal.buildSlice1 hD rfl rfl rfl rfl rfl rfl rfl rfl rfl rfl) rfl rfl rfl ?_
      | refine LOps.valG (LVal.build hD rfl rfl rfl rfl rfl rfl rfl) rfl rfl rfl ?_
      | refine LOps.valG (LVal.buildSlice hD rfl rfl rfl rfl rfl rfl rfl rfl rfl rfl) rfl rfl rfl ?_
      | refine LOps.valG (LVal.takeMap hD rfl rfl rfl rfl rfl rfl (by first | assumption | omega) rfl (fun _ _ => rfl)) rfl rfl rfl ?_
      | refine LOps.valG (LVal.dropMap hD rfl rfl rfl rfl rfl rfl (by first | assumption | omega) rfl (fun _ _ => rfl)) rfl rfl rfl ?_
      | refine LOps.valG (LVal.cutMap hD rfl rfl rfl rfl rfl rfl rfl (by first | assumption | omega) (by first | assumption | omega) rfl (fun _ _ => rfl)) rfl rfl rfl ?_
      | refine LOps.valG (LVal.move2 rfl rfl) rfl rfl rfl ?_
      | refine LOps.valG (LVal.assign2 rfl rfl) rfl rfl rfl ?_
      | refine LOps.valG (LVal.move (.inl rfl)) rfl rfl rfl ?_
      | refine LOps.valG (LVal.move (.inr rfl)) rfl rfl rfl ?_
      | (refine LOps.do0 (LDo.store hD rfl rfl (by first | assumption | exact box_new _ _ _ | exact box_set _ _ _ | (simp only [box_new, box_set, box_row, box_new_ne, box_set_ne, ne_eq, not_false_eq_true, *]; done) | (simp only [box_new, box_set, box_row, box_new_ne, box_set_ne, ne_eq, not_false_eq_true, *]; rfl)) rfl rfl rfl rfl) rfl rfl ?_; rintro _ _ ⟨rfl, rfl⟩))
    refine LWp.condT rfl ?_
    repeat (first
      | refine LOps.nil ?_
      | refine andThen_normal ?_
      | refine andThen_exit ?_
      | refine andThen_ret ?_
      | refine inBlock_normal ?_
      | refine inBlock_ret ?_
      | refine inBlock_here ?_
      | refine inBlock_out rfl ?_
      | refine LWp.seq ?_
      | refine LWp.region ?_
      | refine LWp.block ?_
      | refine LWp.exit ?_
      | refine LWp.ret ?_
      | refine LWp.skip ?_
      | refine LOps.val (LVal.move1 rfl rfl) rfl rfl rfl ?_
      | refine LOps.val (LVal.assign1 rfl rfl) rfl rfl rfl ?_
      | refine LOps.val (LVal.len hD rfl rfl rfl rfl) rfl rfl rfl ?_
      | refine LOps.val (LVal.lenStr hD rfl rfl rfl rfl) rfl rfl rfl ?_
      | refine LOps.val (LVal.add64 rfl rfl rfl (by omega)) rfl rfl rfl ?_
      | refine LOps.val (LVal.sub64 rfl rfl rfl (by omega)) rfl rfl rfl ?_
      | refine LOps.val (LVal.addU64 rfl rfl rfl (by omega)) rfl rfl rfl ?_
      | refine LOps.val (LVal.subU64 rfl rfl rfl (by omega)) rfl rfl rfl ?_
      | refine LOps.val (LVal.mulU64 rfl rfl rfl (by omega)) rfl rfl rfl ?_
      | refine LOps.val (LVal.remI rfl rfl rfl (by omega)) rfl rfl rfl ?_
      | refine LOps.val (LVal.quoU64 rfl rfl rfl (by omega)) rfl rfl rfl ?_
      | refine LOps.val (LVal.quo64 rfl rfl rfl (by omega)) rfl rfl rfl ?_
      | refine LOps.val (LVal.mul64 rfl rfl rfl (by omega)) rfl rfl rfl ?_
      | refine LOps.val (LVal.conv64 hD rfl rfl rfl rfl rfl (by omega)) rfl rfl rfl ?_
      | refine LOps.val (LVal.convU64 hD rfl rfl rfl rfl rfl (by omega)) rfl rfl rfl ?_
      | refine LOps.val (LVal.neqSame hD rfl rfl rfl) rfl rfl rfl ?_
      | refine LOps.val (LVal.neqSameB hD rfl rfl rfl rfl rfl) rfl rfl rfl ?_
      | refine LOps.val (LVal.binOp hD rfl rfl rfl rfl) rfl rfl rfl ?_
      | refine LOps.val (LVal.unOp rfl rfl rfl) rfl rfl rfl ?_
      | refine LOps.val (LVal.pick rfl rfl) rfl rfl rfl ?_
      | refine LOps.val (LVal.extract rfl rfl rfl) rfl rfl rfl ?_
      | refine LOps.val (LVal.convInt hD rfl rfl rfl rfl rfl) rfl rfl rfl ?_
      | refine LOps.val (LVal.fieldAddr hD rfl rfl rfl rfl rfl rfl (by decide)) rfl rfl rfl ?_
      | refine LOps.val (LVal.load hD rfl rfl (by first | assumption | exact box_new _ _ _ | exact box_set _ _ _ | (simp only [box_new, box_set, box_row, box_new_ne, box_set_ne, ne_eq, not_false_eq_true, *]; done) | (simp only [box_new, box_set, box_row, box_new_ne, box_set_ne, ne_eq, not_false_eq_true, *]; rfl)) rfl rfl) rfl rfl rfl ?_
      | refine LOps.val (LVal.indexMap hD rfl rfl rfl rfl rfl rfl (by first | assumption | omega) rfl) rfl rfl rfl ?_
      | refine LOps.val (LVal.loadRo hD rfl rfl rfl rfl) rfl rfl rfl ?_
      | refine LOps.val (LVal.fieldAddrRo hD rfl rfl rfl rfl rfl rfl (by decide)) rfl rfl rfl ?_
      | refine LOps.val (LVal.field hD rfl rfl rfl rfl rfl rfl rfl) rfl rfl rfl ?_
      | refine LOps.val (LVal.buildSlice1 hD rfl rfl rfl rfl rfl rfl rfl rfl rfl rfl) rfl rfl rfl ?_
      | refine LOps.val (LVal.build hD rfl rfl rfl rfl rfl rfl rfl) rfl rfl rfl ?_
      | refine LOps.val (LVal.buildSlice hD rfl rfl rfl rfl rfl rfl rfl rfl rfl rfl) rfl rfl rfl ?_
      | refine LOps.val (LVal.takeMap hD rfl rfl rfl rfl rfl rfl (by first | assumption | omega) rfl (fun _ _ => rfl)) rfl rfl rfl ?_
      | refine LOps.val (LVal.dropMap hD rfl rfl rfl rfl rfl rfl (by first | assumption | omega) rfl (fun _ _ => rfl)) rfl rfl rfl ?_
      | refine LOps.val (LVal.cutMap hD rfl rfl rfl rfl rfl rfl rfl (by first | assumption | omega) (by first | assumption | omega) rfl (fun _ _ => rfl)) rfl rfl rfl ?_
      | refine LOps.val (LVal.move2 rfl rfl) rfl rfl rfl ?_
      | refine LOps.val (LVal.assign2 rfl rfl) rfl rfl rfl ?_
      | refine LOps.val (LVal.move (.inl rfl)) rfl rfl rfl ?_
      | refine LOps.val (LVal.move (.inr rfl)) rfl rfl rfl ?_
      | refine LOps.out rfl rfl rfl ?_
      | refine LOps.valG (LVal.move1 rfl rfl) rfl rfl rfl ?_
      | refine LOps.valG (LVal.assign1 rfl rfl) rfl rfl rfl ?_
      | refine LOps.valG (LVal.len hD rfl rfl rfl rfl) rfl rfl rfl ?_
      | refine LOps.valG (LVal.lenStr hD rfl rfl rfl rfl) rfl rfl rfl ?_
      | refine LOps.valG (LVal.add64 rfl rfl rfl (by omega)) rfl rfl rfl ?_
      | refine LOps.valG (LVal.sub64 rfl rfl rfl (by omega)) rfl rfl rfl ?_
      | refine LOps.valG (LVal.addU64 rfl rfl rfl (by omega)) rfl rfl rfl ?_
      | refine LOps.valG (LVal.subU64 rfl rfl rfl (by omega)) rfl rfl rfl ?_
      | refine LOps.valG (LVal.mulU64 rfl rfl rfl (by omega)) rfl rfl rfl ?_
      | refine LOps.valG (LVal.remI rfl rfl rfl (by omega)) rfl rfl rfl ?_
      | refine LOps.valG (LVal.quoU64 rfl rfl rfl (by omega)) rfl rfl rfl ?_
      | refine LOps.valG (LVal.quo64 rfl rfl rfl (by omega)) rfl rfl rfl ?_
      | refine LOps.valG (LVal.mul64 rfl rfl rfl (by omega)) rfl rfl rfl ?_
      | refine LOps.valG (LVal.conv64 hD rfl rfl rfl rfl rfl (by omega)) rfl rfl rfl ?_
      | refine LOps.valG (LVal.convU64 hD rfl rfl rfl rfl rfl (by omega)) rfl rfl rfl ?_
      | refine LOps.valG (LVal.neqSame hD rfl rfl rfl) rfl rfl rfl ?_
      | refine LOps.valG (LVal.neqSameB hD rfl rfl rfl rfl rfl) rfl rfl rfl ?_
      | refine LOps.valG (LVal.binOp hD rfl rfl rfl rfl) rfl rfl rfl ?_
      | refine LOps.valG (LVal.unOp rfl rfl rfl) rfl rfl rfl ?_
      | refine LOps.valG (LVal.pick rfl rfl) rfl rfl rfl ?_
      | refine LOps.valG (LVal.extract rfl rfl rfl) rfl rfl rfl ?_
      | refine LOps.valG (LVal.convInt hD rfl rfl rfl rfl rfl) rfl rfl rfl ?_
      | refine LOps.valG (LVal.fieldAddr hD rfl rfl rfl rfl rfl rfl (by decide)) rfl rfl rfl ?_
      | refine LOps.valG (LVal.load hD rfl rfl (by first | assumption | exact box_new _ _ _ | exact box_set _ _ _ | (simp only [box_new, box_set, box_row, box_new_ne, box_set_ne, ne_eq, not_false_eq_true, *]; done) | (simp only [box_new, box_set, box_row, box_new_ne, box_set_ne, ne_eq, not_false_eq_true, *]; rfl)) rfl rfl) rfl rfl rfl ?_
      | refine LOps.valG (LVal.indexMap hD rfl rfl rfl rfl rfl rfl (by first | assumption | omega) rfl) rfl rfl rfl ?_
      | refine LOps.valG (LVal.loadRo hD rfl rfl rfl rfl) rfl rfl rfl ?_
      | refine LOps.valG (LVal.fieldAddrRo hD rfl rfl rfl rfl rfl rfl (by decide)) rfl rfl rfl ?_
      | refine LOps.valG (LVal.field hD rfl rfl rfl rfl rfl rfl rfl) rfl rfl rfl ?_
      | refine LOps.valG (LVal.buildSlice1 hD rfl rfl rfl rfl rfl rfl rfl rfl rfl rfl) rfl rfl rfl ?_
      | refine LOps.valG (LVal.build hD rfl rfl rfl rfl rfl rfl rfl) rfl rfl rfl ?_
      | refine LOps.valG (LVal.buildSlice hD rfl rfl rfl rfl rfl rfl rfl rfl rfl rfl) rfl rfl rfl ?_
      | refine LOps.valG (LVal.takeMap hD rfl rfl rfl rfl rfl rfl (by first | assumption | omega) rfl (fun _ _ => rfl)) rfl rfl rfl ?_
      | refine LOps.valG (LVal.dropMap hD rfl rfl rfl rfl rfl rfl (by first | assumption | omega) rfl (fun _ _ => rfl)) rfl rfl rfl ?_
      | refine LOps.valG (LVal.cutMap hD rfl rfl rfl rfl rfl rfl rfl (by first | assumption | omega) (by first | assumption | omega) rfl (fun _ _ => rfl)) rfl rfl rfl ?_
      | refine LOps.valG (LVal.move2 rfl rfl) rfl rfl rfl ?_
      | refine LOps.valG (LVal.assign2 rfl rfl) rfl rfl rfl ?_
      | refine LOps.valG (LVal.move (.inl rfl)) rfl rfl rfl ?_
      | refine LOps.valG (LVal.move (.inr rfl)) rfl rfl rfl ?_
      | (refine LOps.do0 (LDo.store hD rfl rfl (by first | assumption | exact box_new _ _ _ | exact box_set _ _ _ | (simp only [box_new, box_set, box_row, box_new_ne, box_set_ne, ne_eq, not_false_eq_true, *]; done) | (simp only [box_new, box_set, box_row, box_new_ne, box_set_ne, ne_eq, not_false_eq_true, *]; rfl)) rfl rfl rfl rfl) rfl rfl ?_; rintro _ _ ⟨rfl, rfl⟩))
    refine ⟨_, (LRes.many rfl rfl (.cons (.tmp _) (.cons (.tmp _) (.cons (.tmp _) .nil)))).sh, ?_, ((LS.le.refl S).newBox hbw _).setBox hbw.box _⟩
    rw [← remR_no (fun h => by rw [rt_no hr] at h; cases h.1)]; rfl

theorem refRem_F {G : Ctx} (hP : G.P = Try.prog) (p : Nat) (i : Int) (hp : p < 18446744073709551616) : LFun G 20 [.one (.v (.int .u64 p)), .one (iv i)] (remR p i) := LFun.of (refRem_L hP p i hp)
end Go.Proofs.Ytffeegpjnibdnaa.LF
