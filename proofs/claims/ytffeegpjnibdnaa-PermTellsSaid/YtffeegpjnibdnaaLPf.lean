/- The walk of the law 'PermTells', over the frame. -/
import Derived.Test.YtffeegpjnibdnaaLPe
import Derived.Test.YtffeegpjnibdnaaLFn
set_option linter.unusedVariables false
set_option linter.unusedSimpArgs false
namespace Go.Proofs.Ytffeegpjnibdnaa.LF
open Go.RowKit

theorem ofR_form (p : Nat) : ∃ U F : List Nat, ofR p = .tup [.agg [.sl .sh (iList U), .sl .sh (iList F)], .one (.v (.bool (rt (slots p))))] ∧ U.length = usedN p ∧ ∀ k, k < usedN p → U[k]? = some (nib p k) := by
  by_cases hr : Rt (slots p)
  · refine ⟨_, _, by rw [ofR_yes hr, rt_yes hr], ?_, fun k hk => ?_⟩
    · have := slots_length p
      unfold usedN
      rw [rt_yes hr, if_pos rfl, List.length_take]; omega
    · have hu : usedN p = p % 16 := by unfold usedN; rw [rt_yes hr]; rfl
      rw [List.getElem?_take, if_pos (by omega), slots_get p k (by omega)]
  · have hu : usedN p = 0 := by unfold usedN; rw [rt_no hr]; rfl
    exact ⟨[], [], by rw [ofR_no hr, rt_no hr]; rfl, by rw [hu]; rfl, fun k hk => by omega⟩
theorem insR_form (p : Nat) (i : Int) : ∃ (q s : Int) (b : Bool), insR p i = .tup [.one (.v (.int .u64 q)), .one (iv s), .one (.v (.bool b))] := by
  unfold insR; split <;> exact ⟨_, _, _, rfl⟩
theorem remR_form (p : Nat) (i : Int) : ∃ (q s : Int) (b : Bool), remR p i = .tup [.one (.v (.int .u64 q)), .one (iv s), .one (.v (.bool b))] := by
  unfold remR; split <;> exact ⟨_, _, _, rfl⟩

/-- What the boxes hold within the loops. -/
structure Boxes (b5 b6 b7 b22 : Nat) (leave : Int) (U F : List Nat) (a : Nat) (S : LS) : Prop where
  h5 : S.box b5 = some [iv leave]
  h6 : S.box b6 = some [.v (.bool false)]
  h7 : S.box b7 = some [.sl .sh (iList U), .sl .sh (iList F)]
  h22 : S.box b22 = some [iv (a : Nat)]
theorem Boxes.new {b5 b6 b7 b22 : Nat} {leave : Int} {U F : List Nat} {a : Nat} {S : LS} (h : Boxes b5 b6 b7 b22 leave U F a S) {b : Nat} (hb : S.fresh b) (cs : List LV) : Boxes b5 b6 b7 b22 leave U F a (S.newBox b cs) :=
  ⟨(box_new_ne _ _ (fresh_ne hb h.h5)).trans h.h5, (box_new_ne _ _ (fresh_ne hb h.h6)).trans h.h6, (box_new_ne _ _ (fresh_ne hb h.h7)).trans h.h7, (box_new_ne _ _ (fresh_ne hb h.h22)).trans h.h22⟩
theorem Boxes.leB {b5 b6 b7 b22 : Nat} {leave : Int} {U F : List Nat} {a : Nat} {S S' : LS} (h : Boxes b5 b6 b7 b22 leave U F a S) (hle : S.leB S') : Boxes b5 b6 b7 b22 leave U F a S' :=
  ⟨hle.box _ _ h.h5, hle.box _ _ h.h6, hle.box _ _ h.h7, hle.box _ _ h.h22⟩
theorem Boxes.set {b5 b6 b7 b22 : Nat} {leave : Int} {U F : List Nat} {a : Nat} {S : LS} (h : Boxes b5 b6 b7 b22 leave U F a S) {b : Nat} (h5 : b5 ≠ b) (h6 : b6 ≠ b) (h7 : b7 ≠ b) (h22 : b22 ≠ b) (cs : List LV) : Boxes b5 b6 b7 b22 leave U F a (S.setBox b cs) :=
  ⟨(box_set_ne _ _ h5).trans h.h5, (box_set_ne _ _ h6).trans h.h6, (box_set_ne _ _ h7).trans h.h7, (box_set_ne _ _ h22).trans h.h22⟩

set_option maxHeartbeats 4000000 in
theorem tells_L {G : Ctx} (hP : G.P = Try.prog) (p : Nat) (i leave : Int) (hp : p < 18446744073709551616) (S : LS) :
    LCalls G 7 [.one (.v (.int .u64 p)), .one (iv i), .one (iv leave)] (fun r _ => r = .one (.v (.bool true))) S := by
  have hD : TabOK G.P D := by rw [hP]; exact hD0
  obtain ⟨U, F, hof, hUl, hUk⟩ := ofR_form p
  have hofF := of_F hP p hp
  rw [hof] at hofF
  obtain ⟨q1, s1, b1, hi⟩ := insR_form p i
  have hinsF := ins_F hP p i hp
  have hrinF := refIns_F hP p i hp
  rw [hi] at hinsF hrinF
  obtain ⟨q2, s2, b2, hr⟩ := remR_form p i
  have hremF := rem_F hP p i hp
  have hrreF := refRem_F hP p i hp
  rw [hr] at hremF hrreF
  have hatF := at_F hP p i hp
  refine LCalls.enter (fn := Try.f7) (by rw [hP]; exact Try.func7) rfl rfl ?_
  repeat (first
    | refine LOps.nil ?_
    | refine andThen_normal ?_
    | refine andThen_exit ?_
    | refine andThen_ret ?_
    | refine inBlock_normal ?_
    | refine inBlock_ret ?_
    | refine inBlock_here ?_
    | refine inBlock_out rfl ?_
    | refine LWp.seq ?_
    | refine LWp.region ?_
    | refine LWp.block ?_
    | refine LWp.exit ?_
    | refine LWp.ret ?_
    | refine LWp.skip ?_
    | refine LOps.out rfl rfl rfl ?_
    | refine LOps.valG (LVal.move1 rfl rfl) rfl rfl rfl ?_
    | refine LOps.valG (LVal.assign1 rfl rfl) rfl rfl rfl ?_
    | refine LOps.valG (LVal.len hD rfl rfl rfl rfl) rfl rfl rfl ?_
    | refine LOps.valG (LVal.lenStr hD rfl rfl rfl rfl) rfl rfl rfl ?_
    | refine LOps.valG (LVal.add64 rfl rfl rfl (by omega)) rfl rfl rfl ?_
    | refine LOps.valG (LVal.sub64 rfl rfl rfl (by omega)) rfl rfl rfl ?_
    | refine LOps.valG (LVal.addU64 rfl rfl rfl (by omega)) rfl rfl rfl ?_
    | refine LOps.valG (LVal.subU64 rfl rfl rfl (by omega)) rfl rfl rfl ?_
    | refine LOps.valG (LVal.mulU64 rfl rfl rfl (by omega)) rfl rfl rfl ?_
    | refine LOps.valG (LVal.remI rfl rfl rfl (by omega)) rfl rfl rfl ?_
    | refine LOps.valG (LVal.quoU64 rfl rfl rfl (by omega)) rfl rfl rfl ?_
    | refine LOps.valG (LVal.quo64 rfl rfl rfl (by omega)) rfl rfl rfl ?_
    | refine LOps.valG (LVal.mul64 rfl rfl rfl (by omega)) rfl rfl rfl ?_
    | refine LOps.valG (LVal.conv64 hD rfl rfl rfl rfl rfl (by omega)) rfl rfl rfl ?_
    | refine LOps.valG (LVal.convU64 hD rfl rfl rfl rfl rfl (by omega)) rfl rfl rfl ?_
    | refine LOps.valG (LVal.neqSame hD rfl rfl rfl) rfl rfl rfl ?_
    | refine LOps.valG (LVal.neqSameB hD rfl rfl rfl rfl rfl) rfl rfl rfl ?_
    | refine LOps.valG (LVal.binOp hD rfl rfl rfl rfl) rfl rfl rfl ?_
    | refine LOps.valG (LVal.unOp rfl rfl rfl) rfl rfl rfl ?_
    | refine LOps.valG (LVal.pick rfl rfl) rfl rfl rfl ?_
    | refine LOps.valG (LVal.extract rfl rfl rfl) rfl rfl rfl ?_
    | refine LOps.valG (LVal.convInt hD rfl rfl rfl rfl rfl) rfl rfl rfl ?_
    | refine LOps.valG (LVal.fieldAddr hD rfl rfl rfl rfl rfl rfl (by decide)) rfl rfl rfl ?_
    | refine LOps.valG (LVal.load hD rfl rfl (by first | assumption | exact box_new _ _ _ | exact box_set _ _ _ | (simp only [box_new, box_set, box_row, box_new_ne, box_set_ne, ne_eq, not_false_eq_true, *] <;> rfl)) rfl rfl) rfl rfl rfl ?_
    | refine LOps.valG (LVal.indexMap hD rfl rfl rfl rfl rfl rfl (by first | assumption | omega) rfl) rfl rfl rfl ?_
    | refine LOps.valG (LVal.loadRo hD rfl rfl rfl rfl) rfl rfl rfl ?_
    | refine LOps.valG (LVal.fieldAddrRo hD rfl rfl rfl rfl rfl rfl (by decide)) rfl rfl rfl ?_
    | refine LOps.valG (LVal.field hD rfl rfl rfl rfl rfl rfl rfl) rfl rfl rfl ?_
    | refine LOps.valG (LVal.buildSlice1 hD rfl rfl rfl rfl rfl rfl rfl rfl rfl rfl) rfl rfl rfl ?_
    | refine LOps.valG (LVal.build hD rfl rfl rfl rfl rfl rfl rfl) rfl rfl rfl ?_
    | refine LOps.valG (LVal.buildSlice hD rfl rfl rfl rfl rfl rfl rfl rfl rfl rfl) rfl rfl rfl ?_
    | refine LOps.valG (LVal.takeMap hD rfl rfl rfl rfl rfl rfl (by first | assumption | omega) rfl (fun _ _ => rfl)) rfl rfl rfl ?_
    | refine LOps.valG (LVal.dropMap hD rfl rfl rfl rfl rfl rfl (by first | assumption | omega) rfl (fun _ _ => rfl)) rfl rfl rfl ?_
    | refine LOps.valG (LVal.cutMap hD rfl rfl rfl rfl rfl rfl rfl (by first | assumption | omega) (by first | assumption | omega) rfl (fun _ _ => rfl)) rfl rfl rfl ?_
    | refine LOps.valG (LVal.move2 rfl rfl) rfl rfl rfl ?_
    | refine LOps.valG (LVal.assign2 rfl rfl) rfl rfl rfl ?_
    | refine LOps.valG (LVal.move (.inl rfl)) rfl rfl rfl ?_
    | refine LOps.valG (LVal.move (.inr rfl)) rfl rfl rfl ?_
    | (refine LOps.do0 (LDo.store hD rfl rfl (by first | assumption | exact box_new _ _ _ | exact box_set _ _ _ | (simp only [box_new, box_set, box_row, box_new_ne, box_set_ne, ne_eq, not_false_eq_true, *] <;> rfl)) rfl rfl rfl rfl) rfl rfl ?_; rintro _ _ ⟨rfl, rfl⟩))
  refine LOps.do (LDo.box rfl rfl) rfl rfl rfl ?_
  rintro _ _ ⟨b5, hb5, rfl, rfl⟩
  repeat (first
    | refine LOps.nil ?_
    | refine andThen_normal ?_
    | refine andThen_exit ?_
    | refine andThen_ret ?_
    | refine inBlock_normal ?_
    | refine inBlock_ret ?_
    | refine inBlock_here ?_
    | refine inBlock_out rfl ?_
    | refine LWp.seq ?_
    | refine LWp.region ?_
    | refine LWp.block ?_
    | refine LWp.exit ?_
    | refine LWp.ret ?_
    | refine LWp.skip ?_
    | refine LOps.out rfl rfl rfl ?_
    | refine LOps.valG (LVal.move1 rfl rfl) rfl rfl rfl ?_
    | refine LOps.valG (LVal.assign1 rfl rfl) rfl rfl rfl ?_
    | refine LOps.valG (LVal.len hD rfl rfl rfl rfl) rfl rfl rfl ?_
    | refine LOps.valG (LVal.lenStr hD rfl rfl rfl rfl) rfl rfl rfl ?_
    | refine LOps.valG (LVal.add64 rfl rfl rfl (by omega)) rfl rfl rfl ?_
    | refine LOps.valG (LVal.sub64 rfl rfl rfl (by omega)) rfl rfl rfl ?_
    | refine LOps.valG (LVal.addU64 rfl rfl rfl (by omega)) rfl rfl rfl ?_
    | refine LOps.valG (LVal.subU64 rfl rfl rfl (by omega)) rfl rfl rfl ?_
    | refine LOps.valG (LVal.mulU64 rfl rfl rfl (by omega)) rfl rfl rfl ?_
    | refine LOps.valG (LVal.remI rfl rfl rfl (by omega)) rfl rfl rfl ?_
    | refine LOps.valG (LVal.quoU64 rfl rfl rfl (by omega)) rfl rfl rfl ?_
    | refine LOps.valG (LVal.quo64 rfl rfl rfl (by omega)) rfl rfl rfl ?_
    | refine LOps.valG (LVal.mul64 rfl rfl rfl (by omega)) rfl rfl rfl ?_
    | refine LOps.valG (LVal.conv64 hD rfl rfl rfl rfl rfl (by omega)) rfl rfl rfl ?_
    | refine LOps.valG (LVal.convU64 hD rfl rfl rfl rfl rfl (by omega)) rfl rfl rfl ?_
    | refine LOps.valG (LVal.neqSame hD rfl rfl rfl) rfl rfl rfl ?_
    | refine LOps.valG (LVal.neqSameB hD rfl rfl rfl rfl rfl) rfl rfl rfl ?_
    | refine LOps.valG (LVal.binOp hD rfl rfl rfl rfl) rfl rfl rfl ?_
    | refine LOps.valG (LVal.unOp rfl rfl rfl) rfl rfl rfl ?_
    | refine LOps.valG (LVal.pick rfl rfl) rfl rfl rfl ?_
    | refine LOps.valG (LVal.extract rfl rfl rfl) rfl rfl rfl ?_
    | refine LOps.valG (LVal.convInt hD rfl rfl rfl rfl rfl) rfl rfl rfl ?_
    | refine LOps.valG (LVal.fieldAddr hD rfl rfl rfl rfl rfl rfl (by decide)) rfl rfl rfl ?_
    | refine LOps.valG (LVal.load hD rfl rfl (by first | assumption | exact box_new _ _ _ | exact box_set _ _ _ | (simp only [box_new, box_set, box_row, box_new_ne, box_set_ne, ne_eq, not_false_eq_true, *] <;> rfl)) rfl rfl) rfl rfl rfl ?_
    | refine LOps.valG (LVal.indexMap hD rfl rfl rfl rfl rfl rfl (by first | assumption | omega) rfl) rfl rfl rfl ?_
    | refine LOps.valG (LVal.loadRo hD rfl rfl rfl rfl) rfl rfl rfl ?_
    | refine LOps.valG (LVal.fieldAddrRo hD rfl rfl rfl rfl rfl rfl (by decide)) rfl rfl rfl ?_
    | refine LOps.valG (LVal.field hD rfl rfl rfl rfl rfl rfl rfl) rfl rfl rfl ?_
    | refine LOps.valG (LVal.buildSlice1 hD rfl rfl rfl rfl rfl rfl rfl rfl rfl rfl) rfl rfl rfl ?_
    | refine LOps.valG (LVal.build hD rfl rfl rfl rfl rfl rfl rfl) rfl rfl rfl ?_
    | refine LOps.valG (LVal.buildSlice hD rfl rfl rfl rfl rfl rfl rfl rfl rfl rfl) rfl rfl rfl ?_
    | refine LOps.valG (LVal.takeMap hD rfl rfl rfl rfl rfl rfl (by first | assumption | omega) rfl (fun _ _ => rfl)) rfl rfl rfl ?_
    | refine LOps.valG (LVal.dropMap hD rfl rfl rfl rfl rfl rfl (by first | assumption | omega) rfl (fun _ _ => rfl)) rfl rfl rfl ?_
    | refine LOps.valG (LVal.cutMap hD rfl rfl rfl rfl rfl rfl rfl (by first | assumption | omega) (by first | assumption | omega) rfl (fun _ _ => rfl)) rfl rfl rfl ?_
    | refine LOps.valG (LVal.move2 rfl rfl) rfl rfl rfl ?_
    | refine LOps.valG (LVal.assign2 rfl rfl) rfl rfl rfl ?_
    | refine LOps.valG (LVal.move (.inl rfl)) rfl rfl rfl ?_
    | refine LOps.valG (LVal.move (.inr rfl)) rfl rfl rfl ?_
    | (refine LOps.do0 (LDo.store hD rfl rfl (by first | assumption | exact box_new _ _ _ | exact box_set _ _ _ | (simp only [box_new, box_set, box_row, box_new_ne, box_set_ne, ne_eq, not_false_eq_true, *] <;> rfl)) rfl rfl rfl rfl) rfl rfl ?_; rintro _ _ ⟨rfl, rfl⟩))
  refine LOps.do (LDo.alloc hD rfl rfl rfl) rfl rfl rfl ?_
  rintro _ _ ⟨b6, hb6, rfl, rfl⟩
  repeat (first
    | refine LOps.val (LVal.call rfl rfl (by rw [hP]; exact Try.func18) rfl (by decide) hofF) rfl rfl rfl ?_
    | refine LOps.nil ?_
    | refine andThen_normal ?_
    | refine andThen_exit ?_
    | refine andThen_ret ?_
    | refine inBlock_normal ?_
    | refine inBlock_ret ?_
    | refine inBlock_here ?_
    | refine inBlock_out rfl ?_
    | refine LWp.seq ?_
    | refine LWp.region ?_
    | refine LWp.block ?_
    | refine LWp.exit ?_
    | refine LWp.ret ?_
    | refine LWp.skip ?_
    | refine LOps.out rfl rfl rfl ?_
    | refine LOps.valG (LVal.move1 rfl rfl) rfl rfl rfl ?_
    | refine LOps.valG (LVal.assign1 rfl rfl) rfl rfl rfl ?_
    | refine LOps.valG (LVal.len hD rfl rfl rfl rfl) rfl rfl rfl ?_
    | refine LOps.valG (LVal.lenStr hD rfl rfl rfl rfl) rfl rfl rfl ?_
    | refine LOps.valG (LVal.add64 rfl rfl rfl (by omega)) rfl rfl rfl ?_
    | refine LOps.valG (LVal.sub64 rfl rfl rfl (by omega)) rfl rfl rfl ?_
    | refine LOps.valG (LVal.addU64 rfl rfl rfl (by omega)) rfl rfl rfl ?_
    | refine LOps.valG (LVal.subU64 rfl rfl rfl (by omega)) rfl rfl rfl ?_
    | refine LOps.valG (LVal.mulU64 rfl rfl rfl (by omega)) rfl rfl rfl ?_
    | refine LOps.valG (LVal.remI rfl rfl rfl (by omega)) rfl rfl rfl ?_
    | refine LOps.valG (LVal.quoU64 rfl rfl rfl (by omega)) rfl rfl rfl ?_
    | refine LOps.valG (LVal.quo64 rfl rfl rfl (by omega)) rfl rfl rfl ?_
    | refine LOps.valG (LVal.mul64 rfl rfl rfl (by omega)) rfl rfl rfl ?_
    | refine LOps.valG (LVal.conv64 hD rfl rfl rfl rfl rfl (by omega)) rfl rfl rfl ?_
    | refine LOps.valG (LVal.convU64 hD rfl rfl rfl rfl rfl (by omega)) rfl rfl rfl ?_
    | refine LOps.valG (LVal.neqSame hD rfl rfl rfl) rfl rfl rfl ?_
    | refine LOps.valG (LVal.neqSameB hD rfl rfl rfl rfl rfl) rfl rfl rfl ?_
    | refine LOps.valG (LVal.binOp hD rfl rfl rfl rfl) rfl rfl rfl ?_
    | refine LOps.valG (LVal.unOp rfl rfl rfl) rfl rfl rfl ?_
    | refine LOps.valG (LVal.pick rfl rfl) rfl rfl rfl ?_
    | refine LOps.valG (LVal.extract rfl rfl rfl) rfl rfl rfl ?_
    | refine LOps.valG (LVal.convInt hD rfl rfl rfl rfl rfl) rfl rfl rfl ?_
    | refine LOps.valG (LVal.fieldAddr hD rfl rfl rfl rfl rfl rfl (by decide)) rfl rfl rfl ?_
    | refine LOps.valG (LVal.load hD rfl rfl (by first | assumption | exact box_new _ _ _ | exact box_set _ _ _ | (simp only [box_new, box_set, box_row, box_new_ne, box_set_ne, ne_eq, not_false_eq_true, *] <;> rfl)) rfl rfl) rfl rfl rfl ?_
    | refine LOps.valG (LVal.indexMap hD rfl rfl rfl rfl rfl rfl (by first | assumption | omega) rfl) rfl rfl rfl ?_
    | refine LOps.valG (LVal.loadRo hD rfl rfl rfl rfl) rfl rfl rfl ?_
    | refine LOps.valG (LVal.fieldAddrRo hD rfl rfl rfl rfl rfl rfl (by decide)) rfl rfl rfl ?_
    | refine LOps.valG (LVal.field hD rfl rfl rfl rfl rfl rfl rfl) rfl rfl rfl ?_
    | refine LOps.valG (LVal.buildSlice1 hD rfl rfl rfl rfl rfl rfl rfl rfl rfl rfl) rfl rfl rfl ?_
    | refine LOps.valG (LVal.build hD rfl rfl rfl rfl rfl rfl rfl) rfl rfl rfl ?_
    | refine LOps.valG (LVal.buildSlice hD rfl rfl rfl rfl rfl rfl rfl rfl rfl rfl) rfl rfl rfl ?_
    | refine LOps.valG (LVal.takeMap hD rfl rfl rfl rfl rfl rfl (by first | assumption | omega) rfl (fun _ _ => rfl)) rfl rfl rfl ?_
    | refine LOps.valG (LVal.dropMap hD rfl rfl rfl rfl rfl rfl (by first | assumption | omega) rfl (fun _ _ => rfl)) rfl rfl rfl ?_
    | refine LOps.valG (LVal.cutMap hD rfl rfl rfl rfl rfl rfl rfl (by first | assumption | omega) (by first | assumption | omega) rfl (fun _ _ => rfl)) rfl rfl rfl ?_
    | refine LOps.valG (LVal.move2 rfl rfl) rfl rfl rfl ?_
    | refine LOps.valG (LVal.assign2 rfl rfl) rfl rfl rfl ?_
    | refine LOps.valG (LVal.move (.inl rfl)) rfl rfl rfl ?_
    | refine LOps.valG (LVal.move (.inr rfl)) rfl rfl rfl ?_
    | (refine LOps.do0 (LDo.store hD rfl rfl (by first | assumption | exact box_new _ _ _ | exact box_set _ _ _ | (simp only [box_new, box_set, box_row, box_new_ne, box_set_ne, ne_eq, not_false_eq_true, *] <;> rfl)) rfl rfl rfl rfl) rfl rfl ?_; rintro _ _ ⟨rfl, rfl⟩))
  refine LOps.do (LDo.alloc hD rfl rfl rfl) rfl rfl rfl ?_
  rintro _ _ ⟨b7, hb7, rfl, rfl⟩
  have h56 : b5 ≠ b6 := fresh_ne hb6 (box_new _ _ _)
  have h57 : b5 ≠ b7 := fresh_ne hb7 ((box_new_ne _ _ h56).trans (box_new _ _ _))
  have h67 : b6 ≠ b7 := fresh_ne hb7 (box_new _ _ _)
  repeat (first
    | refine LOps.valG (LVal.call rfl rfl (by rw [hP]; exact Try.func11) rfl (by decide) (awake_F hP)) rfl rfl rfl ?_
    | refine LOps.valG (LVal.call rfl rfl (by rw [hP]; exact Try.func12) rfl (by decide) (right_F hP p hp)) rfl rfl rfl ?_
    | refine LOps.valG (LVal.call rfl rfl (by rw [hP]; exact Try.func15) rfl (by decide) (len_F hP p hp)) rfl rfl rfl ?_
    | refine LOps.valG (LVal.call rfl rfl (by rw [hP]; exact Try.func9) rfl (by decide) (empty_F hP)) rfl rfl rfl ?_
    | refine LOps.nil ?_
    | refine andThen_normal ?_
    | refine andThen_exit ?_
    | refine andThen_ret ?_
    | refine inBlock_normal ?_
    | refine inBlock_ret ?_
    | refine inBlock_here ?_
    | refine inBlock_out rfl ?_
    | refine LWp.seq ?_
    | refine LWp.region ?_
    | refine LWp.block ?_
    | refine LWp.exit ?_
    | refine LWp.ret ?_
    | refine LWp.skip ?_
    | refine LOps.out rfl rfl rfl ?_
    | refine LOps.valG (LVal.move1 rfl rfl) rfl rfl rfl ?_
    | refine LOps.valG (LVal.assign1 rfl rfl) rfl rfl rfl ?_
    | refine LOps.valG (LVal.len hD rfl rfl rfl rfl) rfl rfl rfl ?_
    | refine LOps.valG (LVal.lenStr hD rfl rfl rfl rfl) rfl rfl rfl ?_
    | refine LOps.valG (LVal.add64 rfl rfl rfl (by omega)) rfl rfl rfl ?_
    | refine LOps.valG (LVal.sub64 rfl rfl rfl (by omega)) rfl rfl rfl ?_
    | refine LOps.valG (LVal.addU64 rfl rfl rfl (by omega)) rfl rfl rfl ?_
    | refine LOps.valG (LVal.subU64 rfl rfl rfl (by omega)) rfl rfl rfl ?_
    | refine LOps.valG (LVal.mulU64 rfl rfl rfl (by omega)) rfl rfl rfl ?_
    | refine LOps.valG (LVal.remI rfl rfl rfl (by omega)) rfl rfl rfl ?_
    | refine LOps.valG (LVal.quoU64 rfl rfl rfl (by omega)) rfl rfl rfl ?_
    | refine LOps.valG (LVal.quo64 rfl rfl rfl (by omega)) rfl rfl rfl ?_
    | refine LOps.valG (LVal.mul64 rfl rfl rfl (by omega)) rfl rfl rfl ?_
    | refine LOps.valG (LVal.conv64 hD rfl rfl rfl rfl rfl (by omega)) rfl rfl rfl ?_
    | refine LOps.valG (LVal.convU64 hD rfl rfl rfl rfl rfl (by omega)) rfl rfl rfl ?_
    | refine LOps.valG (LVal.neqSame hD rfl rfl rfl) rfl rfl rfl ?_
    | refine LOps.valG (LVal.neqSameB hD rfl rfl rfl rfl rfl) rfl rfl rfl ?_
    | refine LOps.valG (LVal.binOp hD rfl rfl rfl rfl) rfl rfl rfl ?_
    | refine LOps.valG (LVal.unOp rfl rfl rfl) rfl rfl rfl ?_
    | refine LOps.valG (LVal.pick rfl rfl) rfl rfl rfl ?_
    | refine LOps.valG (LVal.extract rfl rfl rfl) rfl rfl rfl ?_
    | refine LOps.valG (LVal.convInt hD rfl rfl rfl rfl rfl) rfl rfl rfl ?_
    | refine LOps.valG (LVal.fieldAddr hD rfl rfl rfl rfl rfl rfl (by decide)) rfl rfl rfl ?_
    | refine LOps.valG (LVal.load hD rfl rfl (by first | assumption | exact box_new _ _ _ | exact box_set _ _ _ | (simp only [box_new, box_set, box_row, box_new_ne, box_set_ne, ne_eq, not_false_eq_true, *] <;> rfl)) rfl rfl) rfl rfl rfl ?_
    | refine LOps.valG (LVal.indexMap hD rfl rfl rfl rfl rfl rfl (by first | assumption | omega) rfl) rfl rfl rfl ?_
    | refine LOps.valG (LVal.loadRo hD rfl rfl rfl rfl) rfl rfl rfl ?_
    | refine LOps.valG (LVal.fieldAddrRo hD rfl rfl rfl rfl rfl rfl (by decide)) rfl rfl rfl ?_
    | refine LOps.valG (LVal.field hD rfl rfl rfl rfl rfl rfl rfl) rfl rfl rfl ?_
    | refine LOps.valG (LVal.buildSlice1 hD rfl rfl rfl rfl rfl rfl rfl rfl rfl rfl) rfl rfl rfl ?_
    | refine LOps.valG (LVal.build hD rfl rfl rfl rfl rfl rfl rfl) rfl rfl rfl ?_
    | refine LOps.valG (LVal.buildSlice hD rfl rfl rfl rfl rfl rfl rfl rfl rfl rfl) rfl rfl rfl ?_
    | refine LOps.valG (LVal.takeMap hD rfl rfl rfl rfl rfl rfl (by first | assumption | omega) rfl (fun _ _ => rfl)) rfl rfl rfl ?_
    | refine LOps.valG (LVal.dropMap hD rfl rfl rfl rfl rfl rfl (by first | assumption | omega) rfl (fun _ _ => rfl)) rfl rfl rfl ?_
    | refine LOps.valG (LVal.cutMap hD rfl rfl rfl rfl rfl rfl rfl (by first | assumption | omega) (by first | assumption | omega) rfl (fun _ _ => rfl)) rfl rfl rfl ?_
    | refine LOps.valG (LVal.move2 rfl rfl) rfl rfl rfl ?_
    | refine LOps.valG (LVal.assign2 rfl rfl) rfl rfl rfl ?_
    | refine LOps.valG (LVal.move (.inl rfl)) rfl rfl rfl ?_
    | refine LOps.valG (LVal.move (.inr rfl)) rfl rfl rfl ?_
    | (refine LOps.do0 (LDo.store hD rfl rfl (by first | assumption | exact box_new _ _ _ | exact box_set _ _ _ | (simp only [box_new, box_set, box_row, box_new_ne, box_set_ne, ne_eq, not_false_eq_true, *] <;> rfl)) rfl rfl rfl rfl) rfl rfl ?_; rintro _ _ ⟨rfl, rfl⟩))
  refine LWp.condF rfl ?_
  repeat (first
    | refine LWp.seq (LWp.cut 5 (fun T' S' => S'.box b5 = some [iv leave] ∧ S'.box b6 = some [.v (.bool false)] ∧ S'.box b7 = some [.sl .sh (iList U), .sl .sh (iList F)] ∧ ∃ T'', T' = over T'' [(0, .one (.v (.int .u64 p))), (1, .one (iv i)), (5, .one (.v (.pointer (some ⟨b5, 0, none⟩)))), (6, .one (.v (.pointer (some ⟨b6, 0, none⟩)))), (7, .one (.v (.pointer (some ⟨b7, 0, none⟩)))), (9, .one (iv (atR p i)))]) rfl ?_ ?_)
    | refine LOps.nil ?_
    | refine andThen_normal ?_
    | refine andThen_exit ?_
    | refine andThen_ret ?_
    | refine inBlock_normal ?_
    | refine inBlock_ret ?_
    | refine inBlock_here ?_
    | refine inBlock_out rfl ?_
    | refine LWp.seq ?_
    | refine LWp.region ?_
    | refine LWp.block ?_
    | refine LWp.exit ?_
    | refine LWp.ret ?_
    | refine LWp.skip ?_
    | refine LOps.out rfl rfl rfl ?_
    | refine LOps.valG (LVal.move1 rfl rfl) rfl rfl rfl ?_
    | refine LOps.valG (LVal.assign1 rfl rfl) rfl rfl rfl ?_
    | refine LOps.valG (LVal.len hD rfl rfl rfl rfl) rfl rfl rfl ?_
    | refine LOps.valG (LVal.lenStr hD rfl rfl rfl rfl) rfl rfl rfl ?_
    | refine LOps.valG (LVal.add64 rfl rfl rfl (by omega)) rfl rfl rfl ?_
    | refine LOps.valG (LVal.sub64 rfl rfl rfl (by omega)) rfl rfl rfl ?_
    | refine LOps.valG (LVal.addU64 rfl rfl rfl (by omega)) rfl rfl rfl ?_
    | refine LOps.valG (LVal.subU64 rfl rfl rfl (by omega)) rfl rfl rfl ?_
    | refine LOps.valG (LVal.mulU64 rfl rfl rfl (by omega)) rfl rfl rfl ?_
    | refine LOps.valG (LVal.remI rfl rfl rfl (by omega)) rfl rfl rfl ?_
    | refine LOps.valG (LVal.quoU64 rfl rfl rfl (by omega)) rfl rfl rfl ?_
    | refine LOps.valG (LVal.quo64 rfl rfl rfl (by omega)) rfl rfl rfl ?_
    | refine LOps.valG (LVal.mul64 rfl rfl rfl (by omega)) rfl rfl rfl ?_
    | refine LOps.valG (LVal.conv64 hD rfl rfl rfl rfl rfl (by omega)) rfl rfl rfl ?_
    | refine LOps.valG (LVal.convU64 hD rfl rfl rfl rfl rfl (by omega)) rfl rfl rfl ?_
    | refine LOps.valG (LVal.neqSame hD rfl rfl rfl) rfl rfl rfl ?_
    | refine LOps.valG (LVal.neqSameB hD rfl rfl rfl rfl rfl) rfl rfl rfl ?_
    | refine LOps.valG (LVal.binOp hD rfl rfl rfl rfl) rfl rfl rfl ?_
    | refine LOps.valG (LVal.unOp rfl rfl rfl) rfl rfl rfl ?_
    | refine LOps.valG (LVal.pick rfl rfl) rfl rfl rfl ?_
    | refine LOps.valG (LVal.extract rfl rfl rfl) rfl rfl rfl ?_
    | refine LOps.valG (LVal.convInt hD rfl rfl rfl rfl rfl) rfl rfl rfl ?_
    | refine LOps.valG (LVal.fieldAddr hD rfl rfl rfl rfl rfl rfl (by decide)) rfl rfl rfl ?_
    | refine LOps.valG (LVal.load hD rfl rfl (by first | assumption | exact box_new _ _ _ | exact box_set _ _ _ | (simp only [box_new, box_set, box_row, box_new_ne, box_set_ne, ne_eq, not_false_eq_true, *] <;> rfl)) rfl rfl) rfl rfl rfl ?_
    | refine LOps.valG (LVal.indexMap hD rfl rfl rfl rfl rfl rfl (by first | assumption | omega) rfl) rfl rfl rfl ?_
    | refine LOps.valG (LVal.loadRo hD rfl rfl rfl rfl) rfl rfl rfl ?_
    | refine LOps.valG (LVal.fieldAddrRo hD rfl rfl rfl rfl rfl rfl (by decide)) rfl rfl rfl ?_
    | refine LOps.valG (LVal.field hD rfl rfl rfl rfl rfl rfl rfl) rfl rfl rfl ?_
    | refine LOps.valG (LVal.buildSlice1 hD rfl rfl rfl rfl rfl rfl rfl rfl rfl rfl) rfl rfl rfl ?_
    | refine LOps.valG (LVal.build hD rfl rfl rfl rfl rfl rfl rfl) rfl rfl rfl ?_
    | refine LOps.valG (LVal.buildSlice hD rfl rfl rfl rfl rfl rfl rfl rfl rfl rfl) rfl rfl rfl ?_
    | refine LOps.valG (LVal.takeMap hD rfl rfl rfl rfl rfl rfl (by first | assumption | omega) rfl (fun _ _ => rfl)) rfl rfl rfl ?_
    | refine LOps.valG (LVal.dropMap hD rfl rfl rfl rfl rfl rfl (by first | assumption | omega) rfl (fun _ _ => rfl)) rfl rfl rfl ?_
    | refine LOps.valG (LVal.cutMap hD rfl rfl rfl rfl rfl rfl rfl (by first | assumption | omega) (by first | assumption | omega) rfl (fun _ _ => rfl)) rfl rfl rfl ?_
    | refine LOps.valG (LVal.move2 rfl rfl) rfl rfl rfl ?_
    | refine LOps.valG (LVal.assign2 rfl rfl) rfl rfl rfl ?_
    | refine LOps.valG (LVal.move (.inl rfl)) rfl rfl rfl ?_
    | refine LOps.valG (LVal.move (.inr rfl)) rfl rfl rfl ?_
    | (refine LOps.do0 (LDo.store hD rfl rfl (by first | assumption | exact box_new _ _ _ | exact box_set _ _ _ | (simp only [box_new, box_set, box_row, box_new_ne, box_set_ne, ne_eq, not_false_eq_true, *] <;> rfl)) rfl rfl rfl rfl) rfl rfl ?_; rintro _ _ ⟨rfl, rfl⟩))
  · have K : ∀ (T : Nat → TV) (S' : LS), S' = (((S.newBox b5 [iv leave]).newBox b6 [.v (.bool false)]).newBox b7 (ti40.zero.cells.toList.map constLV)).setBox b7 [.sl .sh (iList U), .sl .sh (iList F)] →
        T 0 = .one (.v (.int .u64 p)) → T 1 = .one (iv i) → T 5 = .one (.v (.pointer (some ⟨b5, 0, none⟩))) → T 6 = .one (.v (.pointer (some ⟨b6, 0, none⟩))) → T 7 = .one (.v (.pointer (some ⟨b7, 0, none⟩))) → T 9 = .one (iv (atR p i)) →
        S'.box b5 = some [iv leave] ∧ S'.box b6 = some [.v (.bool false)] ∧ S'.box b7 = some [.sl .sh (iList U), .sl .sh (iList F)] ∧ ∃ T'', T = over T'' [(0, .one (.v (.int .u64 p))), (1, .one (iv i)), (5, .one (.v (.pointer (some ⟨b5, 0, none⟩)))), (6, .one (.v (.pointer (some ⟨b6, 0, none⟩)))), (7, .one (.v (.pointer (some ⟨b7, 0, none⟩)))), (9, .one (iv (atR p i)))] := by
      rintro T S' rfl h0 h1 h5 h6 h7 h9
      refine ⟨?_, ?_, box_set _ _ _, T, holds.over ⟨h0, h1, h5, h6, h7, h9, trivial⟩⟩
      · rw [box_set_ne _ _ h57, box_new_ne _ _ h57, box_new_ne _ _ h56]; exact box_new _ _ _
      · rw [box_set_ne _ _ h67, box_new_ne _ _ h67]; exact box_new _ _ _
    have hout : ¬ (0 ≤ i ∧ i < 15) → iv (-1) = iv (atR p i) := fun h => by unfold atR; rw [if_neg h]
    refine LOps.guard rfl rfl rfl (fun hg => ?_) (fun hg => ?_)
    · repeat (first
        | refine LOps.nil ?_
        | refine andThen_normal ?_
        | refine andThen_exit ?_
        | refine andThen_ret ?_
        | refine inBlock_normal ?_
        | refine inBlock_ret ?_
        | refine inBlock_here ?_
        | refine inBlock_out rfl ?_
        | refine LWp.seq ?_
        | refine LWp.region ?_
        | refine LWp.block ?_
        | refine LWp.exit ?_
        | refine LWp.ret ?_
        | refine LWp.skip ?_
        | refine LOps.out rfl rfl rfl ?_
        | refine LOps.valG (LVal.move1 rfl rfl) rfl rfl rfl ?_
        | refine LOps.valG (LVal.assign1 rfl rfl) rfl rfl rfl ?_
        | refine LOps.valG (LVal.len hD rfl rfl rfl rfl) rfl rfl rfl ?_
        | refine LOps.valG (LVal.lenStr hD rfl rfl rfl rfl) rfl rfl rfl ?_
        | refine LOps.valG (LVal.add64 rfl rfl rfl (by omega)) rfl rfl rfl ?_
        | refine LOps.valG (LVal.sub64 rfl rfl rfl (by omega)) rfl rfl rfl ?_
        | refine LOps.valG (LVal.addU64 rfl rfl rfl (by omega)) rfl rfl rfl ?_
        | refine LOps.valG (LVal.subU64 rfl rfl rfl (by omega)) rfl rfl rfl ?_
        | refine LOps.valG (LVal.mulU64 rfl rfl rfl (by omega)) rfl rfl rfl ?_
        | refine LOps.valG (LVal.remI rfl rfl rfl (by omega)) rfl rfl rfl ?_
        | refine LOps.valG (LVal.quoU64 rfl rfl rfl (by omega)) rfl rfl rfl ?_
        | refine LOps.valG (LVal.quo64 rfl rfl rfl (by omega)) rfl rfl rfl ?_
        | refine LOps.valG (LVal.mul64 rfl rfl rfl (by omega)) rfl rfl rfl ?_
        | refine LOps.valG (LVal.conv64 hD rfl rfl rfl rfl rfl (by omega)) rfl rfl rfl ?_
        | refine LOps.valG (LVal.convU64 hD rfl rfl rfl rfl rfl (by omega)) rfl rfl rfl ?_
        | refine LOps.valG (LVal.neqSame hD rfl rfl rfl) rfl rfl rfl ?_
        | refine LOps.valG (LVal.neqSameB hD rfl rfl rfl rfl rfl) rfl rfl rfl ?_
        | refine LOps.valG (LVal.binOp hD rfl rfl rfl rfl) rfl rfl rfl ?_
        | refine LOps.valG (LVal.unOp rfl rfl rfl) rfl rfl rfl ?_
        | refine LOps.valG (LVal.pick rfl rfl) rfl rfl rfl ?_
        | refine LOps.valG (LVal.extract rfl rfl rfl) rfl rfl rfl ?_
        | refine LOps.valG (LVal.convInt hD rfl rfl rfl rfl rfl) rfl rfl rfl ?_
        | refine LOps.valG (LVal.fieldAddr hD rfl rfl rfl rfl rfl rfl (by decide)) rfl rfl rfl ?_
        | refine LOps.valG (LVal.load hD rfl rfl (by first | assumption | exact box_new _ _ _ | exact box_set _ _ _ | (simp only [box_new, box_set, box_row, box_new_ne, box_set_ne, ne_eq, not_false_eq_true, *] <;> rfl)) rfl rfl) rfl rfl rfl ?_
        | refine LOps.valG (LVal.indexMap hD rfl rfl rfl rfl rfl rfl (by first | assumption | omega) rfl) rfl rfl rfl ?_
        | refine LOps.valG (LVal.loadRo hD rfl rfl rfl rfl) rfl rfl rfl ?_
        | refine LOps.valG (LVal.fieldAddrRo hD rfl rfl rfl rfl rfl rfl (by decide)) rfl rfl rfl ?_
        | refine LOps.valG (LVal.field hD rfl rfl rfl rfl rfl rfl rfl) rfl rfl rfl ?_
        | refine LOps.valG (LVal.buildSlice1 hD rfl rfl rfl rfl rfl rfl rfl rfl rfl rfl) rfl rfl rfl ?_
        | refine LOps.valG (LVal.build hD rfl rfl rfl rfl rfl rfl rfl) rfl rfl rfl ?_
        | refine LOps.valG (LVal.buildSlice hD rfl rfl rfl rfl rfl rfl rfl rfl rfl rfl) rfl rfl rfl ?_
        | refine LOps.valG (LVal.takeMap hD rfl rfl rfl rfl rfl rfl (by first | assumption | omega) rfl (fun _ _ => rfl)) rfl rfl rfl ?_
        | refine LOps.valG (LVal.dropMap hD rfl rfl rfl rfl rfl rfl (by first | assumption | omega) rfl (fun _ _ => rfl)) rfl rfl rfl ?_
        | refine LOps.valG (LVal.cutMap hD rfl rfl rfl rfl rfl rfl rfl (by first | assumption | omega) (by first | assumption | omega) rfl (fun _ _ => rfl)) rfl rfl rfl ?_
        | refine LOps.valG (LVal.move2 rfl rfl) rfl rfl rfl ?_
        | refine LOps.valG (LVal.assign2 rfl rfl) rfl rfl rfl ?_
        | refine LOps.valG (LVal.move (.inl rfl)) rfl rfl rfl ?_
        | refine LOps.valG (LVal.move (.inr rfl)) rfl rfl rfl ?_
        | (refine LOps.do0 (LDo.store hD rfl rfl (by first | assumption | exact box_new _ _ _ | exact box_set _ _ _ | (simp only [box_new, box_set, box_row, box_new_ne, box_set_ne, ne_eq, not_false_eq_true, *] <;> rfl)) rfl rfl rfl rfl) rfl rfl ?_; rintro _ _ ⟨rfl, rfl⟩))
      refine LWp.cond rfl (fun hg2 => ?_) (fun hg2 => ?_)
      · have h0 : 0 ≤ i := by have := of_decide_eq_true hg; omega
        have h15 : i < 15 := by have := of_decide_eq_true hg2; omega
        obtain ⟨k, rfl⟩ : ∃ k : Nat, i = k := ⟨i.toNat, by omega⟩
        obtain ⟨m, hm⟩ : ∃ m, p / 2 ^ (4 + 4 * k) = m := ⟨_, rfl⟩
        repeat (first
          | refine LOps.val (LVal.shrN rfl rfl rfl (n := 4 + 4 * k) (by omega) (by omega) hm) rfl rfl rfl ?_
          | refine LOps.nil ?_
          | refine andThen_normal ?_
          | refine andThen_exit ?_
          | refine andThen_ret ?_
          | refine inBlock_normal ?_
          | refine inBlock_ret ?_
          | refine inBlock_here ?_
          | refine inBlock_out rfl ?_
          | refine LWp.seq ?_
          | refine LWp.region ?_
          | refine LWp.block ?_
          | refine LWp.exit ?_
          | refine LWp.ret ?_
          | refine LWp.skip ?_
          | refine LOps.out rfl rfl rfl ?_
          | refine LOps.valG (LVal.move1 rfl rfl) rfl rfl rfl ?_
          | refine LOps.valG (LVal.assign1 rfl rfl) rfl rfl rfl ?_
          | refine LOps.valG (LVal.len hD rfl rfl rfl rfl) rfl rfl rfl ?_
          | refine LOps.valG (LVal.lenStr hD rfl rfl rfl rfl) rfl rfl rfl ?_
          | refine LOps.valG (LVal.add64 rfl rfl rfl (by omega)) rfl rfl rfl ?_
          | refine LOps.valG (LVal.sub64 rfl rfl rfl (by omega)) rfl rfl rfl ?_
          | refine LOps.valG (LVal.addU64 rfl rfl rfl (by omega)) rfl rfl rfl ?_
          | refine LOps.valG (LVal.subU64 rfl rfl rfl (by omega)) rfl rfl rfl ?_
          | refine LOps.valG (LVal.mulU64 rfl rfl rfl (by omega)) rfl rfl rfl ?_
          | refine LOps.valG (LVal.remI rfl rfl rfl (by omega)) rfl rfl rfl ?_
          | refine LOps.valG (LVal.quoU64 rfl rfl rfl (by omega)) rfl rfl rfl ?_
          | refine LOps.valG (LVal.quo64 rfl rfl rfl (by omega)) rfl rfl rfl ?_
          | refine LOps.valG (LVal.mul64 rfl rfl rfl (by omega)) rfl rfl rfl ?_
          | refine LOps.valG (LVal.conv64 hD rfl rfl rfl rfl rfl (by omega)) rfl rfl rfl ?_
          | refine LOps.valG (LVal.convU64 hD rfl rfl rfl rfl rfl (by omega)) rfl rfl rfl ?_
          | refine LOps.valG (LVal.neqSame hD rfl rfl rfl) rfl rfl rfl ?_
          | refine LOps.valG (LVal.neqSameB hD rfl rfl rfl rfl rfl) rfl rfl rfl ?_
          | refine LOps.valG (LVal.binOp hD rfl rfl rfl rfl) rfl rfl rfl ?_
          | refine LOps.valG (LVal.unOp rfl rfl rfl) rfl rfl rfl ?_
          | refine LOps.valG (LVal.pick rfl rfl) rfl rfl rfl ?_
          | refine LOps.valG (LVal.extract rfl rfl rfl) rfl rfl rfl ?_
          | refine LOps.valG (LVal.convInt hD rfl rfl rfl rfl rfl) rfl rfl rfl ?_
          | refine LOps.valG (LVal.fieldAddr hD rfl rfl rfl rfl rfl rfl (by decide)) rfl rfl rfl ?_
          | refine LOps.valG (LVal.load hD rfl rfl (by first | assumption | exact box_new _ _ _ | exact box_set _ _ _ | (simp only [box_new, box_set, box_row, box_new_ne, box_set_ne, ne_eq, not_false_eq_true, *] <;> rfl)) rfl rfl) rfl rfl rfl ?_
          | refine LOps.valG (LVal.indexMap hD rfl rfl rfl rfl rfl rfl (by first | assumption | omega) rfl) rfl rfl rfl ?_
          | refine LOps.valG (LVal.loadRo hD rfl rfl rfl rfl) rfl rfl rfl ?_
          | refine LOps.valG (LVal.fieldAddrRo hD rfl rfl rfl rfl rfl rfl (by decide)) rfl rfl rfl ?_
          | refine LOps.valG (LVal.field hD rfl rfl rfl rfl rfl rfl rfl) rfl rfl rfl ?_
          | refine LOps.valG (LVal.buildSlice1 hD rfl rfl rfl rfl rfl rfl rfl rfl rfl rfl) rfl rfl rfl ?_
          | refine LOps.valG (LVal.build hD rfl rfl rfl rfl rfl rfl rfl) rfl rfl rfl ?_
          | refine LOps.valG (LVal.buildSlice hD rfl rfl rfl rfl rfl rfl rfl rfl rfl rfl) rfl rfl rfl ?_
          | refine LOps.valG (LVal.takeMap hD rfl rfl rfl rfl rfl rfl (by first | assumption | omega) rfl (fun _ _ => rfl)) rfl rfl rfl ?_
          | refine LOps.valG (LVal.dropMap hD rfl rfl rfl rfl rfl rfl (by first | assumption | omega) rfl (fun _ _ => rfl)) rfl rfl rfl ?_
          | refine LOps.valG (LVal.cutMap hD rfl rfl rfl rfl rfl rfl rfl (by first | assumption | omega) (by first | assumption | omega) rfl (fun _ _ => rfl)) rfl rfl rfl ?_
          | refine LOps.valG (LVal.move2 rfl rfl) rfl rfl rfl ?_
          | refine LOps.valG (LVal.assign2 rfl rfl) rfl rfl rfl ?_
          | refine LOps.valG (LVal.move (.inl rfl)) rfl rfl rfl ?_
          | refine LOps.valG (LVal.move (.inr rfl)) rfl rfl rfl ?_
          | (refine LOps.do0 (LDo.store hD rfl rfl (by first | assumption | exact box_new _ _ _ | exact box_set _ _ _ | (simp only [box_new, box_set, box_row, box_new_ne, box_set_ne, ne_eq, not_false_eq_true, *] <;> rfl)) rfl rfl rfl rfl) rfl rfl ?_; rintro _ _ ⟨rfl, rfl⟩))
        refine K _ _ rfl rfl rfl rfl rfl rfl ?_
        have : ((m : Int) % 16) = atR p k := by
          unfold atR
          rw [if_pos ⟨h0, h15⟩, Int.toNat_natCast, ← nib_shift, hm]; rfl
        rw [← this]; rfl
      · repeat (first
          | refine LOps.nil ?_
          | refine andThen_normal ?_
          | refine andThen_exit ?_
          | refine andThen_ret ?_
          | refine inBlock_normal ?_
          | refine inBlock_ret ?_
          | refine inBlock_here ?_
          | refine inBlock_out rfl ?_
          | refine LWp.seq ?_
          | refine LWp.region ?_
          | refine LWp.block ?_
          | refine LWp.exit ?_
          | refine LWp.ret ?_
          | refine LWp.skip ?_
          | refine LOps.out rfl rfl rfl ?_
          | refine LOps.valG (LVal.move1 rfl rfl) rfl rfl rfl ?_
          | refine LOps.valG (LVal.assign1 rfl rfl) rfl rfl rfl ?_
          | refine LOps.valG (LVal.len hD rfl rfl rfl rfl) rfl rfl rfl ?_
          | refine LOps.valG (LVal.lenStr hD rfl rfl rfl rfl) rfl rfl rfl ?_
          | refine LOps.valG (LVal.add64 rfl rfl rfl (by omega)) rfl rfl rfl ?_
          | refine LOps.valG (LVal.sub64 rfl rfl rfl (by omega)) rfl rfl rfl ?_
          | refine LOps.valG (LVal.addU64 rfl rfl rfl (by omega)) rfl rfl rfl ?_
          | refine LOps.valG (LVal.subU64 rfl rfl rfl (by omega)) rfl rfl rfl ?_
          | refine LOps.valG (LVal.mulU64 rfl rfl rfl (by omega)) rfl rfl rfl ?_
          | refine LOps.valG (LVal.remI rfl rfl rfl (by omega)) rfl rfl rfl ?_
          | refine LOps.valG (LVal.quoU64 rfl rfl rfl (by omega)) rfl rfl rfl ?_
          | refine LOps.valG (LVal.quo64 rfl rfl rfl (by omega)) rfl rfl rfl ?_
          | refine LOps.valG (LVal.mul64 rfl rfl rfl (by omega)) rfl rfl rfl ?_
          | refine LOps.valG (LVal.conv64 hD rfl rfl rfl rfl rfl (by omega)) rfl rfl rfl ?_
          | refine LOps.valG (LVal.convU64 hD rfl rfl rfl rfl rfl (by omega)) rfl rfl rfl ?_
          | refine LOps.valG (LVal.neqSame hD rfl rfl rfl) rfl rfl rfl ?_
          | refine LOps.valG (LVal.neqSameB hD rfl rfl rfl rfl rfl) rfl rfl rfl ?_
          | refine LOps.valG (LVal.binOp hD rfl rfl rfl rfl) rfl rfl rfl ?_
          | refine LOps.valG (LVal.unOp rfl rfl rfl) rfl rfl rfl ?_
          | refine LOps.valG (LVal.pick rfl rfl) rfl rfl rfl ?_
          | refine LOps.valG (LVal.extract rfl rfl rfl) rfl rfl rfl ?_
          | refine LOps.valG (LVal.convInt hD rfl rfl rfl rfl rfl) rfl rfl rfl ?_
          | refine LOps.valG (LVal.fieldAddr hD rfl rfl rfl rfl rfl rfl (by decide)) rfl rfl rfl ?_
          | refine LOps.valG (LVal.load hD rfl rfl (by first | assumption | exact box_new _ _ _ | exact box_set _ _ _ | (simp only [box_new, box_set, box_row, box_new_ne, box_set_ne, ne_eq, not_false_eq_true, *] <;> rfl)) rfl rfl) rfl rfl rfl ?_
          | refine LOps.valG (LVal.indexMap hD rfl rfl rfl rfl rfl rfl (by first | assumption | omega) rfl) rfl rfl rfl ?_
          | refine LOps.valG (LVal.loadRo hD rfl rfl rfl rfl) rfl rfl rfl ?_
          | refine LOps.valG (LVal.fieldAddrRo hD rfl rfl rfl rfl rfl rfl (by decide)) rfl rfl rfl ?_
          | refine LOps.valG (LVal.field hD rfl rfl rfl rfl rfl rfl rfl) rfl rfl rfl ?_
          | refine LOps.valG (LVal.buildSlice1 hD rfl rfl rfl rfl rfl rfl rfl rfl rfl rfl) rfl rfl rfl ?_
          | refine LOps.valG (LVal.build hD rfl rfl rfl rfl rfl rfl rfl) rfl rfl rfl ?_
          | refine LOps.valG (LVal.buildSlice hD rfl rfl rfl rfl rfl rfl rfl rfl rfl rfl) rfl rfl rfl ?_
          | refine LOps.valG (LVal.takeMap hD rfl rfl rfl rfl rfl rfl (by first | assumption | omega) rfl (fun _ _ => rfl)) rfl rfl rfl ?_
          | refine LOps.valG (LVal.dropMap hD rfl rfl rfl rfl rfl rfl (by first | assumption | omega) rfl (fun _ _ => rfl)) rfl rfl rfl ?_
          | refine LOps.valG (LVal.cutMap hD rfl rfl rfl rfl rfl rfl rfl (by first | assumption | omega) (by first | assumption | omega) rfl (fun _ _ => rfl)) rfl rfl rfl ?_
          | refine LOps.valG (LVal.move2 rfl rfl) rfl rfl rfl ?_
          | refine LOps.valG (LVal.assign2 rfl rfl) rfl rfl rfl ?_
          | refine LOps.valG (LVal.move (.inl rfl)) rfl rfl rfl ?_
          | refine LOps.valG (LVal.move (.inr rfl)) rfl rfl rfl ?_
          | (refine LOps.do0 (LDo.store hD rfl rfl (by first | assumption | exact box_new _ _ _ | exact box_set _ _ _ | (simp only [box_new, box_set, box_row, box_new_ne, box_set_ne, ne_eq, not_false_eq_true, *] <;> rfl)) rfl rfl rfl rfl) rfl rfl ?_; rintro _ _ ⟨rfl, rfl⟩))
        exact K _ _ rfl rfl rfl rfl rfl rfl (by rw [← hout (fun h => by have := of_decide_eq_false hg2; omega)]; rfl)
    · repeat (first
        | refine LOps.nil ?_
        | refine andThen_normal ?_
        | refine andThen_exit ?_
        | refine andThen_ret ?_
        | refine inBlock_normal ?_
        | refine inBlock_ret ?_
        | refine inBlock_here ?_
        | refine inBlock_out rfl ?_
        | refine LWp.seq ?_
        | refine LWp.region ?_
        | refine LWp.block ?_
        | refine LWp.exit ?_
        | refine LWp.ret ?_
        | refine LWp.skip ?_
        | refine LOps.out rfl rfl rfl ?_
        | refine LOps.valG (LVal.move1 rfl rfl) rfl rfl rfl ?_
        | refine LOps.valG (LVal.assign1 rfl rfl) rfl rfl rfl ?_
        | refine LOps.valG (LVal.len hD rfl rfl rfl rfl) rfl rfl rfl ?_
        | refine LOps.valG (LVal.lenStr hD rfl rfl rfl rfl) rfl rfl rfl ?_
        | refine LOps.valG (LVal.add64 rfl rfl rfl (by omega)) rfl rfl rfl ?_
        | refine LOps.valG (LVal.sub64 rfl rfl rfl (by omega)) rfl rfl rfl ?_
        | refine LOps.valG (LVal.addU64 rfl rfl rfl (by omega)) rfl rfl rfl ?_
        | refine LOps.valG (LVal.subU64 rfl rfl rfl (by omega)) rfl rfl rfl ?_
        | refine LOps.valG (LVal.mulU64 rfl rfl rfl (by omega)) rfl rfl rfl ?_
        | refine LOps.valG (LVal.remI rfl rfl rfl (by omega)) rfl rfl rfl ?_
        | refine LOps.valG (LVal.quoU64 rfl rfl rfl (by omega)) rfl rfl rfl ?_
        | refine LOps.valG (LVal.quo64 rfl rfl rfl (by omega)) rfl rfl rfl ?_
        | refine LOps.valG (LVal.mul64 rfl rfl rfl (by omega)) rfl rfl rfl ?_
        | refine LOps.valG (LVal.conv64 hD rfl rfl rfl rfl rfl (by omega)) rfl rfl rfl ?_
        | refine LOps.valG (LVal.convU64 hD rfl rfl rfl rfl rfl (by omega)) rfl rfl rfl ?_
        | refine LOps.valG (LVal.neqSame hD rfl rfl rfl) rfl rfl rfl ?_
        | refine LOps.valG (LVal.neqSameB hD rfl rfl rfl rfl rfl) rfl rfl rfl ?_
        | refine LOps.valG (LVal.binOp hD rfl rfl rfl rfl) rfl rfl rfl ?_
        | refine LOps.valG (LVal.unOp rfl rfl rfl) rfl rfl rfl ?_
        | refine LOps.valG (LVal.pick rfl rfl) rfl rfl rfl ?_
        | refine LOps.valG (LVal.extract rfl rfl rfl) rfl rfl rfl ?_
        | refine LOps.valG (LVal.convInt hD rfl rfl rfl rfl rfl) rfl rfl rfl ?_
        | refine LOps.valG (LVal.fieldAddr hD rfl rfl rfl rfl rfl rfl (by decide)) rfl rfl rfl ?_
        | refine LOps.valG (LVal.load hD rfl rfl (by first | assumption | exact box_new _ _ _ | exact box_set _ _ _ | (simp only [box_new, box_set, box_row, box_new_ne, box_set_ne, ne_eq, not_false_eq_true, *] <;> rfl)) rfl rfl) rfl rfl rfl ?_
        | refine LOps.valG (LVal.indexMap hD rfl rfl rfl rfl rfl rfl (by first | assumption | omega) rfl) rfl rfl rfl ?_
        | refine LOps.valG (LVal.loadRo hD rfl rfl rfl rfl) rfl rfl rfl ?_
        | refine LOps.valG (LVal.fieldAddrRo hD rfl rfl rfl rfl rfl rfl (by decide)) rfl rfl rfl ?_
        | refine LOps.valG (LVal.field hD rfl rfl rfl rfl rfl rfl rfl) rfl rfl rfl ?_
        | refine LOps.valG (LVal.buildSlice1 hD rfl rfl rfl rfl rfl rfl rfl rfl rfl rfl) rfl rfl rfl ?_
        | refine LOps.valG (LVal.build hD rfl rfl rfl rfl rfl rfl rfl) rfl rfl rfl ?_
        | refine LOps.valG (LVal.buildSlice hD rfl rfl rfl rfl rfl rfl rfl rfl rfl rfl) rfl rfl rfl ?_
        | refine LOps.valG (LVal.takeMap hD rfl rfl rfl rfl rfl rfl (by first | assumption | omega) rfl (fun _ _ => rfl)) rfl rfl rfl ?_
        | refine LOps.valG (LVal.dropMap hD rfl rfl rfl rfl rfl rfl (by first | assumption | omega) rfl (fun _ _ => rfl)) rfl rfl rfl ?_
        | refine LOps.valG (LVal.cutMap hD rfl rfl rfl rfl rfl rfl rfl (by first | assumption | omega) (by first | assumption | omega) rfl (fun _ _ => rfl)) rfl rfl rfl ?_
        | refine LOps.valG (LVal.move2 rfl rfl) rfl rfl rfl ?_
        | refine LOps.valG (LVal.assign2 rfl rfl) rfl rfl rfl ?_
        | refine LOps.valG (LVal.move (.inl rfl)) rfl rfl rfl ?_
        | refine LOps.valG (LVal.move (.inr rfl)) rfl rfl rfl ?_
        | (refine LOps.do0 (LDo.store hD rfl rfl (by first | assumption | exact box_new _ _ _ | exact box_set _ _ _ | (simp only [box_new, box_set, box_row, box_new_ne, box_set_ne, ne_eq, not_false_eq_true, *] <;> rfl)) rfl rfl rfl rfl) rfl rfl ?_; rintro _ _ ⟨rfl, rfl⟩))
      refine LWp.condF rfl ?_
      repeat (first
        | refine LOps.nil ?_
        | refine andThen_normal ?_
        | refine andThen_exit ?_
        | refine andThen_ret ?_
        | refine inBlock_normal ?_
        | refine inBlock_ret ?_
        | refine inBlock_here ?_
        | refine inBlock_out rfl ?_
        | refine LWp.seq ?_
        | refine LWp.region ?_
        | refine LWp.block ?_
        | refine LWp.exit ?_
        | refine LWp.ret ?_
        | refine LWp.skip ?_
        | refine LOps.out rfl rfl rfl ?_
        | refine LOps.valG (LVal.move1 rfl rfl) rfl rfl rfl ?_
        | refine LOps.valG (LVal.assign1 rfl rfl) rfl rfl rfl ?_
        | refine LOps.valG (LVal.len hD rfl rfl rfl rfl) rfl rfl rfl ?_
        | refine LOps.valG (LVal.lenStr hD rfl rfl rfl rfl) rfl rfl rfl ?_
        | refine LOps.valG (LVal.add64 rfl rfl rfl (by omega)) rfl rfl rfl ?_
        | refine LOps.valG (LVal.sub64 rfl rfl rfl (by omega)) rfl rfl rfl ?_
        | refine LOps.valG (LVal.addU64 rfl rfl rfl (by omega)) rfl rfl rfl ?_
        | refine LOps.valG (LVal.subU64 rfl rfl rfl (by omega)) rfl rfl rfl ?_
        | refine LOps.valG (LVal.mulU64 rfl rfl rfl (by omega)) rfl rfl rfl ?_
        | refine LOps.valG (LVal.remI rfl rfl rfl (by omega)) rfl rfl rfl ?_
        | refine LOps.valG (LVal.quoU64 rfl rfl rfl (by omega)) rfl rfl rfl ?_
        | refine LOps.valG (LVal.quo64 rfl rfl rfl (by omega)) rfl rfl rfl ?_
        | refine LOps.valG (LVal.mul64 rfl rfl rfl (by omega)) rfl rfl rfl ?_
        | refine LOps.valG (LVal.conv64 hD rfl rfl rfl rfl rfl (by omega)) rfl rfl rfl ?_
        | refine LOps.valG (LVal.convU64 hD rfl rfl rfl rfl rfl (by omega)) rfl rfl rfl ?_
        | refine LOps.valG (LVal.neqSame hD rfl rfl rfl) rfl rfl rfl ?_
        | refine LOps.valG (LVal.neqSameB hD rfl rfl rfl rfl rfl) rfl rfl rfl ?_
        | refine LOps.valG (LVal.binOp hD rfl rfl rfl rfl) rfl rfl rfl ?_
        | refine LOps.valG (LVal.unOp rfl rfl rfl) rfl rfl rfl ?_
        | refine LOps.valG (LVal.pick rfl rfl) rfl rfl rfl ?_
        | refine LOps.valG (LVal.extract rfl rfl rfl) rfl rfl rfl ?_
        | refine LOps.valG (LVal.convInt hD rfl rfl rfl rfl rfl) rfl rfl rfl ?_
        | refine LOps.valG (LVal.fieldAddr hD rfl rfl rfl rfl rfl rfl (by decide)) rfl rfl rfl ?_
        | refine LOps.valG (LVal.load hD rfl rfl (by first | assumption | exact box_new _ _ _ | exact box_set _ _ _ | (simp only [box_new, box_set, box_row, box_new_ne, box_set_ne, ne_eq, not_false_eq_true, *] <;> rfl)) rfl rfl) rfl rfl rfl ?_
        | refine LOps.valG (LVal.indexMap hD rfl rfl rfl rfl rfl rfl (by first | assumption | omega) rfl) rfl rfl rfl ?_
        | refine LOps.valG (LVal.loadRo hD rfl rfl rfl rfl) rfl rfl rfl ?_
        | refine LOps.valG (LVal.fieldAddrRo hD rfl rfl rfl rfl rfl rfl (by decide)) rfl rfl rfl ?_
        | refine LOps.valG (LVal.field hD rfl rfl rfl rfl rfl rfl rfl) rfl rfl rfl ?_
        | refine LOps.valG (LVal.buildSlice1 hD rfl rfl rfl rfl rfl rfl rfl rfl rfl rfl) rfl rfl rfl ?_
        | refine LOps.valG (LVal.build hD rfl rfl rfl rfl rfl rfl rfl) rfl rfl rfl ?_
        | refine LOps.valG (LVal.buildSlice hD rfl rfl rfl rfl rfl rfl rfl rfl rfl rfl) rfl rfl rfl ?_
        | refine LOps.valG (LVal.takeMap hD rfl rfl rfl rfl rfl rfl (by first | assumption | omega) rfl (fun _ _ => rfl)) rfl rfl rfl ?_
        | refine LOps.valG (LVal.dropMap hD rfl rfl rfl rfl rfl rfl (by first | assumption | omega) rfl (fun _ _ => rfl)) rfl rfl rfl ?_
        | refine LOps.valG (LVal.cutMap hD rfl rfl rfl rfl rfl rfl rfl (by first | assumption | omega) (by first | assumption | omega) rfl (fun _ _ => rfl)) rfl rfl rfl ?_
        | refine LOps.valG (LVal.move2 rfl rfl) rfl rfl rfl ?_
        | refine LOps.valG (LVal.assign2 rfl rfl) rfl rfl rfl ?_
        | refine LOps.valG (LVal.move (.inl rfl)) rfl rfl rfl ?_
        | refine LOps.valG (LVal.move (.inr rfl)) rfl rfl rfl ?_
        | (refine LOps.do0 (LDo.store hD rfl rfl (by first | assumption | exact box_new _ _ _ | exact box_set _ _ _ | (simp only [box_new, box_set, box_row, box_new_ne, box_set_ne, ne_eq, not_false_eq_true, *] <;> rfl)) rfl rfl rfl rfl) rfl rfl ?_; rintro _ _ ⟨rfl, rfl⟩))
      exact K _ _ rfl rfl rfl rfl rfl rfl (by rw [← hout (fun h => by have := of_decide_eq_false hg; omega)]; rfl)
  rintro T S' ⟨H5, H6, H7, T', rfl⟩
  clear hb5 hb6 hb7
  repeat (first
    | refine LOps.val (LVal.call rfl rfl (by rw [hP]; exact Try.func8) rfl (by decide) hinsF) rfl rfl rfl ?_
    | refine LOps.val (LVal.call rfl rfl (by rw [hP]; exact Try.func19) rfl (by decide) hrinF) rfl rfl rfl ?_
    | refine LOps.val (LVal.call rfl rfl (by rw [hP]; exact Try.func10) rfl (by decide) hremF) rfl rfl rfl ?_
    | refine LOps.val (LVal.call rfl rfl (by rw [hP]; exact Try.func20) rfl (by decide) hrreF) rfl rfl rfl ?_
    | refine LOps.val (LVal.call rfl rfl (by rw [hP]; exact Try.func13) rfl (by decide) hatF) rfl rfl rfl ?_
    | refine LOps.nil ?_
    | refine andThen_normal ?_
    | refine andThen_exit ?_
    | refine andThen_ret ?_
    | refine inBlock_normal ?_
    | refine inBlock_ret ?_
    | refine inBlock_here ?_
    | refine inBlock_out rfl ?_
    | refine LWp.seq ?_
    | refine LWp.region ?_
    | refine LWp.block ?_
    | refine LWp.exit ?_
    | refine LWp.ret ?_
    | refine LWp.skip ?_
    | refine LOps.out rfl rfl rfl ?_
    | refine LOps.valG (LVal.move1 rfl rfl) rfl rfl rfl ?_
    | refine LOps.valG (LVal.assign1 rfl rfl) rfl rfl rfl ?_
    | refine LOps.valG (LVal.len hD rfl rfl rfl rfl) rfl rfl rfl ?_
    | refine LOps.valG (LVal.lenStr hD rfl rfl rfl rfl) rfl rfl rfl ?_
    | refine LOps.valG (LVal.add64 rfl rfl rfl (by omega)) rfl rfl rfl ?_
    | refine LOps.valG (LVal.sub64 rfl rfl rfl (by omega)) rfl rfl rfl ?_
    | refine LOps.valG (LVal.addU64 rfl rfl rfl (by omega)) rfl rfl rfl ?_
    | refine LOps.valG (LVal.subU64 rfl rfl rfl (by omega)) rfl rfl rfl ?_
    | refine LOps.valG (LVal.mulU64 rfl rfl rfl (by omega)) rfl rfl rfl ?_
    | refine LOps.valG (LVal.remI rfl rfl rfl (by omega)) rfl rfl rfl ?_
    | refine LOps.valG (LVal.quoU64 rfl rfl rfl (by omega)) rfl rfl rfl ?_
    | refine LOps.valG (LVal.quo64 rfl rfl rfl (by omega)) rfl rfl rfl ?_
    | refine LOps.valG (LVal.mul64 rfl rfl rfl (by omega)) rfl rfl rfl ?_
    | refine LOps.valG (LVal.conv64 hD rfl rfl rfl rfl rfl (by omega)) rfl rfl rfl ?_
    | refine LOps.valG (LVal.convU64 hD rfl rfl rfl rfl rfl (by omega)) rfl rfl rfl ?_
    | refine LOps.valG (LVal.neqSame hD rfl rfl rfl) rfl rfl rfl ?_
    | refine LOps.valG (LVal.neqSameB hD rfl rfl rfl rfl rfl) rfl rfl rfl ?_
    | refine LOps.valG (LVal.binOp hD rfl rfl rfl rfl) rfl rfl rfl ?_
    | refine LOps.valG (LVal.unOp rfl rfl rfl) rfl rfl rfl ?_
    | refine LOps.valG (LVal.pick rfl rfl) rfl rfl rfl ?_
    | refine LOps.valG (LVal.extract rfl rfl rfl) rfl rfl rfl ?_
    | refine LOps.valG (LVal.convInt hD rfl rfl rfl rfl rfl) rfl rfl rfl ?_
    | refine LOps.valG (LVal.fieldAddr hD rfl rfl rfl rfl rfl rfl (by decide)) rfl rfl rfl ?_
    | refine LOps.valG (LVal.load hD rfl rfl (by first | assumption | exact box_new _ _ _ | exact box_set _ _ _ | (simp only [box_new, box_set, box_row, box_new_ne, box_set_ne, ne_eq, not_false_eq_true, *] <;> rfl)) rfl rfl) rfl rfl rfl ?_
    | refine LOps.valG (LVal.indexMap hD rfl rfl rfl rfl rfl rfl (by first | assumption | omega) rfl) rfl rfl rfl ?_
    | refine LOps.valG (LVal.loadRo hD rfl rfl rfl rfl) rfl rfl rfl ?_
    | refine LOps.valG (LVal.fieldAddrRo hD rfl rfl rfl rfl rfl rfl (by decide)) rfl rfl rfl ?_
    | refine LOps.valG (LVal.field hD rfl rfl rfl rfl rfl rfl rfl) rfl rfl rfl ?_
    | refine LOps.valG (LVal.buildSlice1 hD rfl rfl rfl rfl rfl rfl rfl rfl rfl rfl) rfl rfl rfl ?_
    | refine LOps.valG (LVal.build hD rfl rfl rfl rfl rfl rfl rfl) rfl rfl rfl ?_
    | refine LOps.valG (LVal.buildSlice hD rfl rfl rfl rfl rfl rfl rfl rfl rfl rfl) rfl rfl rfl ?_
    | refine LOps.valG (LVal.takeMap hD rfl rfl rfl rfl rfl rfl (by first | assumption | omega) rfl (fun _ _ => rfl)) rfl rfl rfl ?_
    | refine LOps.valG (LVal.dropMap hD rfl rfl rfl rfl rfl rfl (by first | assumption | omega) rfl (fun _ _ => rfl)) rfl rfl rfl ?_
    | refine LOps.valG (LVal.cutMap hD rfl rfl rfl rfl rfl rfl rfl (by first | assumption | omega) (by first | assumption | omega) rfl (fun _ _ => rfl)) rfl rfl rfl ?_
    | refine LOps.valG (LVal.move2 rfl rfl) rfl rfl rfl ?_
    | refine LOps.valG (LVal.assign2 rfl rfl) rfl rfl rfl ?_
    | refine LOps.valG (LVal.move (.inl rfl)) rfl rfl rfl ?_
    | refine LOps.valG (LVal.move (.inr rfl)) rfl rfl rfl ?_
    | (refine LOps.do0 (LDo.store hD rfl rfl (by first | assumption | exact box_new _ _ _ | exact box_set _ _ _ | (simp only [box_new, box_set, box_row, box_new_ne, box_set_ne, ne_eq, not_false_eq_true, *] <;> rfl)) rfl rfl rfl rfl) rfl rfl ?_; rintro _ _ ⟨rfl, rfl⟩))
  refine LWp.condF rfl ?_
  repeat (first
    | refine LOps.nil ?_
    | refine andThen_normal ?_
    | refine andThen_exit ?_
    | refine andThen_ret ?_
    | refine inBlock_normal ?_
    | refine inBlock_ret ?_
    | refine inBlock_here ?_
    | refine inBlock_out rfl ?_
    | refine LWp.seq ?_
    | refine LWp.region ?_
    | refine LWp.block ?_
    | refine LWp.exit ?_
    | refine LWp.ret ?_
    | refine LWp.skip ?_
    | refine LOps.out rfl rfl rfl ?_
    | refine LOps.valG (LVal.move1 rfl rfl) rfl rfl rfl ?_
    | refine LOps.valG (LVal.assign1 rfl rfl) rfl rfl rfl ?_
    | refine LOps.valG (LVal.len hD rfl rfl rfl rfl) rfl rfl rfl ?_
    | refine LOps.valG (LVal.lenStr hD rfl rfl rfl rfl) rfl rfl rfl ?_
    | refine LOps.valG (LVal.add64 rfl rfl rfl (by omega)) rfl rfl rfl ?_
    | refine LOps.valG (LVal.sub64 rfl rfl rfl (by omega)) rfl rfl rfl ?_
    | refine LOps.valG (LVal.addU64 rfl rfl rfl (by omega)) rfl rfl rfl ?_
    | refine LOps.valG (LVal.subU64 rfl rfl rfl (by omega)) rfl rfl rfl ?_
    | refine LOps.valG (LVal.mulU64 rfl rfl rfl (by omega)) rfl rfl rfl ?_
    | refine LOps.valG (LVal.remI rfl rfl rfl (by omega)) rfl rfl rfl ?_
    | refine LOps.valG (LVal.quoU64 rfl rfl rfl (by omega)) rfl rfl rfl ?_
    | refine LOps.valG (LVal.quo64 rfl rfl rfl (by omega)) rfl rfl rfl ?_
    | refine LOps.valG (LVal.mul64 rfl rfl rfl (by omega)) rfl rfl rfl ?_
    | refine LOps.valG (LVal.conv64 hD rfl rfl rfl rfl rfl (by omega)) rfl rfl rfl ?_
    | refine LOps.valG (LVal.convU64 hD rfl rfl rfl rfl rfl (by omega)) rfl rfl rfl ?_
    | refine LOps.valG (LVal.neqSame hD rfl rfl rfl) rfl rfl rfl ?_
    | refine LOps.valG (LVal.neqSameB hD rfl rfl rfl rfl rfl) rfl rfl rfl ?_
    | refine LOps.valG (LVal.binOp hD rfl rfl rfl rfl) rfl rfl rfl ?_
    | refine LOps.valG (LVal.unOp rfl rfl rfl) rfl rfl rfl ?_
    | refine LOps.valG (LVal.pick rfl rfl) rfl rfl rfl ?_
    | refine LOps.valG (LVal.extract rfl rfl rfl) rfl rfl rfl ?_
    | refine LOps.valG (LVal.convInt hD rfl rfl rfl rfl rfl) rfl rfl rfl ?_
    | refine LOps.valG (LVal.fieldAddr hD rfl rfl rfl rfl rfl rfl (by decide)) rfl rfl rfl ?_
    | refine LOps.valG (LVal.load hD rfl rfl (by first | assumption | exact box_new _ _ _ | exact box_set _ _ _ | (simp only [box_new, box_set, box_row, box_new_ne, box_set_ne, ne_eq, not_false_eq_true, *] <;> rfl)) rfl rfl) rfl rfl rfl ?_
    | refine LOps.valG (LVal.indexMap hD rfl rfl rfl rfl rfl rfl (by first | assumption | omega) rfl) rfl rfl rfl ?_
    | refine LOps.valG (LVal.loadRo hD rfl rfl rfl rfl) rfl rfl rfl ?_
    | refine LOps.valG (LVal.fieldAddrRo hD rfl rfl rfl rfl rfl rfl (by decide)) rfl rfl rfl ?_
    | refine LOps.valG (LVal.field hD rfl rfl rfl rfl rfl rfl rfl) rfl rfl rfl ?_
    | refine LOps.valG (LVal.buildSlice1 hD rfl rfl rfl rfl rfl rfl rfl rfl rfl rfl) rfl rfl rfl ?_
    | refine LOps.valG (LVal.build hD rfl rfl rfl rfl rfl rfl rfl) rfl rfl rfl ?_
    | refine LOps.valG (LVal.buildSlice hD rfl rfl rfl rfl rfl rfl rfl rfl rfl rfl) rfl rfl rfl ?_
    | refine LOps.valG (LVal.takeMap hD rfl rfl rfl rfl rfl rfl (by first | assumption | omega) rfl (fun _ _ => rfl)) rfl rfl rfl ?_
    | refine LOps.valG (LVal.dropMap hD rfl rfl rfl rfl rfl rfl (by first | assumption | omega) rfl (fun _ _ => rfl)) rfl rfl rfl ?_
    | refine LOps.valG (LVal.cutMap hD rfl rfl rfl rfl rfl rfl rfl (by first | assumption | omega) (by first | assumption | omega) rfl (fun _ _ => rfl)) rfl rfl rfl ?_
    | refine LOps.valG (LVal.move2 rfl rfl) rfl rfl rfl ?_
    | refine LOps.valG (LVal.assign2 rfl rfl) rfl rfl rfl ?_
    | refine LOps.valG (LVal.move (.inl rfl)) rfl rfl rfl ?_
    | refine LOps.valG (LVal.move (.inr rfl)) rfl rfl rfl ?_
    | (refine LOps.do0 (LDo.store hD rfl rfl (by first | assumption | exact box_new _ _ _ | exact box_set _ _ _ | (simp only [box_new, box_set, box_row, box_new_ne, box_set_ne, ne_eq, not_false_eq_true, *] <;> rfl)) rfl rfl rfl rfl) rfl rfl ?_; rintro _ _ ⟨rfl, rfl⟩))
  refine LOps.do (LDo.alloc hD rfl rfl rfl) rfl rfl rfl ?_
  rintro _ _ ⟨b22, hb22, rfl, rfl⟩
  have n5 : b5 ≠ b22 := fresh_ne hb22 H5
  have n6 : b6 ≠ b22 := fresh_ne hb22 H6
  have n7 : b7 ≠ b22 := fresh_ne hb22 H7
  repeat (first
    | refine LOps.nil ?_
    | refine andThen_normal ?_
    | refine andThen_exit ?_
    | refine andThen_ret ?_
    | refine inBlock_normal ?_
    | refine inBlock_ret ?_
    | refine inBlock_here ?_
    | refine inBlock_out rfl ?_
    | refine LWp.seq ?_
    | refine LWp.region ?_
    | refine LWp.block ?_
    | refine LWp.exit ?_
    | refine LWp.ret ?_
    | refine LWp.skip ?_
    | refine LOps.out rfl rfl rfl ?_
    | refine LOps.valG (LVal.move1 rfl rfl) rfl rfl rfl ?_
    | refine LOps.valG (LVal.assign1 rfl rfl) rfl rfl rfl ?_
    | refine LOps.valG (LVal.len hD rfl rfl rfl rfl) rfl rfl rfl ?_
    | refine LOps.valG (LVal.lenStr hD rfl rfl rfl rfl) rfl rfl rfl ?_
    | refine LOps.valG (LVal.add64 rfl rfl rfl (by omega)) rfl rfl rfl ?_
    | refine LOps.valG (LVal.sub64 rfl rfl rfl (by omega)) rfl rfl rfl ?_
    | refine LOps.valG (LVal.addU64 rfl rfl rfl (by omega)) rfl rfl rfl ?_
    | refine LOps.valG (LVal.subU64 rfl rfl rfl (by omega)) rfl rfl rfl ?_
    | refine LOps.valG (LVal.mulU64 rfl rfl rfl (by omega)) rfl rfl rfl ?_
    | refine LOps.valG (LVal.remI rfl rfl rfl (by omega)) rfl rfl rfl ?_
    | refine LOps.valG (LVal.quoU64 rfl rfl rfl (by omega)) rfl rfl rfl ?_
    | refine LOps.valG (LVal.quo64 rfl rfl rfl (by omega)) rfl rfl rfl ?_
    | refine LOps.valG (LVal.mul64 rfl rfl rfl (by omega)) rfl rfl rfl ?_
    | refine LOps.valG (LVal.conv64 hD rfl rfl rfl rfl rfl (by omega)) rfl rfl rfl ?_
    | refine LOps.valG (LVal.convU64 hD rfl rfl rfl rfl rfl (by omega)) rfl rfl rfl ?_
    | refine LOps.valG (LVal.neqSame hD rfl rfl rfl) rfl rfl rfl ?_
    | refine LOps.valG (LVal.neqSameB hD rfl rfl rfl rfl rfl) rfl rfl rfl ?_
    | refine LOps.valG (LVal.binOp hD rfl rfl rfl rfl) rfl rfl rfl ?_
    | refine LOps.valG (LVal.unOp rfl rfl rfl) rfl rfl rfl ?_
    | refine LOps.valG (LVal.pick rfl rfl) rfl rfl rfl ?_
    | refine LOps.valG (LVal.extract rfl rfl rfl) rfl rfl rfl ?_
    | refine LOps.valG (LVal.convInt hD rfl rfl rfl rfl rfl) rfl rfl rfl ?_
    | refine LOps.valG (LVal.fieldAddr hD rfl rfl rfl rfl rfl rfl (by decide)) rfl rfl rfl ?_
    | refine LOps.valG (LVal.load hD rfl rfl (by first | assumption | exact box_new _ _ _ | exact box_set _ _ _ | (simp only [box_new, box_set, box_row, box_new_ne, box_set_ne, ne_eq, not_false_eq_true, *] <;> rfl)) rfl rfl) rfl rfl rfl ?_
    | refine LOps.valG (LVal.indexMap hD rfl rfl rfl rfl rfl rfl (by first | assumption | omega) rfl) rfl rfl rfl ?_
    | refine LOps.valG (LVal.loadRo hD rfl rfl rfl rfl) rfl rfl rfl ?_
    | refine LOps.valG (LVal.fieldAddrRo hD rfl rfl rfl rfl rfl rfl (by decide)) rfl rfl rfl ?_
    | refine LOps.valG (LVal.field hD rfl rfl rfl rfl rfl rfl rfl) rfl rfl rfl ?_
    | refine LOps.valG (LVal.buildSlice1 hD rfl rfl rfl rfl rfl rfl rfl rfl rfl rfl) rfl rfl rfl ?_
    | refine LOps.valG (LVal.build hD rfl rfl rfl rfl rfl rfl rfl) rfl rfl rfl ?_
    | refine LOps.valG (LVal.buildSlice hD rfl rfl rfl rfl rfl rfl rfl rfl rfl rfl) rfl rfl rfl ?_
    | refine LOps.valG (LVal.takeMap hD rfl rfl rfl rfl rfl rfl (by first | assumption | omega) rfl (fun _ _ => rfl)) rfl rfl rfl ?_
    | refine LOps.valG (LVal.dropMap hD rfl rfl rfl rfl rfl rfl (by first | assumption | omega) rfl (fun _ _ => rfl)) rfl rfl rfl ?_
    | refine LOps.valG (LVal.cutMap hD rfl rfl rfl rfl rfl rfl rfl (by first | assumption | omega) (by first | assumption | omega) rfl (fun _ _ => rfl)) rfl rfl rfl ?_
    | refine LOps.valG (LVal.move2 rfl rfl) rfl rfl rfl ?_
    | refine LOps.valG (LVal.assign2 rfl rfl) rfl rfl rfl ?_
    | refine LOps.valG (LVal.move (.inl rfl)) rfl rfl rfl ?_
    | refine LOps.valG (LVal.move (.inr rfl)) rfl rfl rfl ?_
    | (refine LOps.do0 (LDo.store hD rfl rfl (by first | assumption | exact box_new _ _ _ | exact box_set _ _ _ | (simp only [box_new, box_set, box_row, box_new_ne, box_set_ne, ne_eq, not_false_eq_true, *] <;> rfl)) rfl rfl rfl rfl) rfl rfl ?_; rintro _ _ ⟨rfl, rfl⟩))
  refine LWp.loop (fun m T S' => ∃ T' a b22, a ≤ 2 ∧ m = 2 - a ∧ Boxes b5 b6 b7 b22 leave U F a S' ∧ b5 ≠ b22 ∧ b6 ≠ b22 ∧ b7 ≠ b22 ∧ T = over T' [(0, .one (.v (.int .u64 p))), (5, .one (.v (.pointer (some ⟨b5, 0, none⟩)))), (6, .one (.v (.pointer (some ⟨b6, 0, none⟩)))), (7, .one (.v (.pointer (some ⟨b7, 0, none⟩)))), (22, .one (.v (.pointer (some ⟨b22, 0, none⟩))))]) 2 ?_ ?_
  · refine ⟨_, 0, b22, by omega, rfl, ⟨?_, ?_, ?_, box_set _ _ _⟩, n5, n6, n7, holds.over ⟨rfl, rfl, rfl, rfl, rfl, trivial⟩⟩
    · rw [box_set_ne _ _ n5, box_new_ne _ _ n5]; exact H5
    · rw [box_set_ne _ _ n6, box_new_ne _ _ n6]; exact H6
    · rw [box_set_ne _ _ n7, box_new_ne _ _ n7]; exact H7
  clear hb22 n5 n6 n7 H5 H6 H7 T' b22 S' hinsF hrinF hremF hrreF hatF hi hr hofF hof
  rintro m T S' ⟨T', a, b22, ha, rfl, hB, n5, n6, n7, rfl⟩
  have H22 := hB.h22
  repeat (first
    | refine LOps.nil ?_
    | refine andThen_normal ?_
    | refine andThen_exit ?_
    | refine andThen_ret ?_
    | refine inBlock_normal ?_
    | refine inBlock_ret ?_
    | refine inBlock_here ?_
    | refine inBlock_out rfl ?_
    | refine LWp.seq ?_
    | refine LWp.region ?_
    | refine LWp.block ?_
    | refine LWp.exit ?_
    | refine LWp.ret ?_
    | refine LWp.skip ?_
    | refine LOps.out rfl rfl rfl ?_
    | refine LOps.valG (LVal.move1 rfl rfl) rfl rfl rfl ?_
    | refine LOps.valG (LVal.assign1 rfl rfl) rfl rfl rfl ?_
    | refine LOps.valG (LVal.len hD rfl rfl rfl rfl) rfl rfl rfl ?_
    | refine LOps.valG (LVal.lenStr hD rfl rfl rfl rfl) rfl rfl rfl ?_
    | refine LOps.valG (LVal.add64 rfl rfl rfl (by omega)) rfl rfl rfl ?_
    | refine LOps.valG (LVal.sub64 rfl rfl rfl (by omega)) rfl rfl rfl ?_
    | refine LOps.valG (LVal.addU64 rfl rfl rfl (by omega)) rfl rfl rfl ?_
    | refine LOps.valG (LVal.subU64 rfl rfl rfl (by omega)) rfl rfl rfl ?_
    | refine LOps.valG (LVal.mulU64 rfl rfl rfl (by omega)) rfl rfl rfl ?_
    | refine LOps.valG (LVal.remI rfl rfl rfl (by omega)) rfl rfl rfl ?_
    | refine LOps.valG (LVal.quoU64 rfl rfl rfl (by omega)) rfl rfl rfl ?_
    | refine LOps.valG (LVal.quo64 rfl rfl rfl (by omega)) rfl rfl rfl ?_
    | refine LOps.valG (LVal.mul64 rfl rfl rfl (by omega)) rfl rfl rfl ?_
    | refine LOps.valG (LVal.conv64 hD rfl rfl rfl rfl rfl (by omega)) rfl rfl rfl ?_
    | refine LOps.valG (LVal.convU64 hD rfl rfl rfl rfl rfl (by omega)) rfl rfl rfl ?_
    | refine LOps.valG (LVal.neqSame hD rfl rfl rfl) rfl rfl rfl ?_
    | refine LOps.valG (LVal.neqSameB hD rfl rfl rfl rfl rfl) rfl rfl rfl ?_
    | refine LOps.valG (LVal.binOp hD rfl rfl rfl rfl) rfl rfl rfl ?_
    | refine LOps.valG (LVal.unOp rfl rfl rfl) rfl rfl rfl ?_
    | refine LOps.valG (LVal.pick rfl rfl) rfl rfl rfl ?_
    | refine LOps.valG (LVal.extract rfl rfl rfl) rfl rfl rfl ?_
    | refine LOps.valG (LVal.convInt hD rfl rfl rfl rfl rfl) rfl rfl rfl ?_
    | refine LOps.valG (LVal.fieldAddr hD rfl rfl rfl rfl rfl rfl (by decide)) rfl rfl rfl ?_
    | refine LOps.valG (LVal.load hD rfl rfl (by first | assumption | exact box_new _ _ _ | exact box_set _ _ _ | (simp only [box_new, box_set, box_row, box_new_ne, box_set_ne, ne_eq, not_false_eq_true, *] <;> rfl)) rfl rfl) rfl rfl rfl ?_
    | refine LOps.valG (LVal.indexMap hD rfl rfl rfl rfl rfl rfl (by first | assumption | omega) rfl) rfl rfl rfl ?_
    | refine LOps.valG (LVal.loadRo hD rfl rfl rfl rfl) rfl rfl rfl ?_
    | refine LOps.valG (LVal.fieldAddrRo hD rfl rfl rfl rfl rfl rfl (by decide)) rfl rfl rfl ?_
    | refine LOps.valG (LVal.field hD rfl rfl rfl rfl rfl rfl rfl) rfl rfl rfl ?_
    | refine LOps.valG (LVal.buildSlice1 hD rfl rfl rfl rfl rfl rfl rfl rfl rfl rfl) rfl rfl rfl ?_
    | refine LOps.valG (LVal.build hD rfl rfl rfl rfl rfl rfl rfl) rfl rfl rfl ?_
    | refine LOps.valG (LVal.buildSlice hD rfl rfl rfl rfl rfl rfl rfl rfl rfl rfl) rfl rfl rfl ?_
    | refine LOps.valG (LVal.takeMap hD rfl rfl rfl rfl rfl rfl (by first | assumption | omega) rfl (fun _ _ => rfl)) rfl rfl rfl ?_
    | refine LOps.valG (LVal.dropMap hD rfl rfl rfl rfl rfl rfl (by first | assumption | omega) rfl (fun _ _ => rfl)) rfl rfl rfl ?_
    | refine LOps.valG (LVal.cutMap hD rfl rfl rfl rfl rfl rfl rfl (by first | assumption | omega) (by first | assumption | omega) rfl (fun _ _ => rfl)) rfl rfl rfl ?_
    | refine LOps.valG (LVal.move2 rfl rfl) rfl rfl rfl ?_
    | refine LOps.valG (LVal.assign2 rfl rfl) rfl rfl rfl ?_
    | refine LOps.valG (LVal.move (.inl rfl)) rfl rfl rfl ?_
    | refine LOps.valG (LVal.move (.inr rfl)) rfl rfl rfl ?_
    | (refine LOps.do0 (LDo.store hD rfl rfl (by first | assumption | exact box_new _ _ _ | exact box_set _ _ _ | (simp only [box_new, box_set, box_row, box_new_ne, box_set_ne, ne_eq, not_false_eq_true, *] <;> rfl)) rfl rfl rfl rfl) rfl rfl ?_; rintro _ _ ⟨rfl, rfl⟩))
  refine LWp.cond rfl (fun h => ?_) (fun h => ?_)
  · have ha2 : a < 2 := by have := of_decide_eq_true h; omega
    repeat (first
      | refine LOps.nil ?_
      | refine andThen_normal ?_
      | refine andThen_exit ?_
      | refine andThen_ret ?_
      | refine inBlock_normal ?_
      | refine inBlock_ret ?_
      | refine inBlock_here ?_
      | refine inBlock_out rfl ?_
      | refine LWp.seq ?_
      | refine LWp.region ?_
      | refine LWp.block ?_
      | refine LWp.exit ?_
      | refine LWp.ret ?_
      | refine LWp.skip ?_
      | refine LOps.out rfl rfl rfl ?_
      | refine LOps.valG (LVal.move1 rfl rfl) rfl rfl rfl ?_
      | refine LOps.valG (LVal.assign1 rfl rfl) rfl rfl rfl ?_
      | refine LOps.valG (LVal.len hD rfl rfl rfl rfl) rfl rfl rfl ?_
      | refine LOps.valG (LVal.lenStr hD rfl rfl rfl rfl) rfl rfl rfl ?_
      | refine LOps.valG (LVal.add64 rfl rfl rfl (by omega)) rfl rfl rfl ?_
      | refine LOps.valG (LVal.sub64 rfl rfl rfl (by omega)) rfl rfl rfl ?_
      | refine LOps.valG (LVal.addU64 rfl rfl rfl (by omega)) rfl rfl rfl ?_
      | refine LOps.valG (LVal.subU64 rfl rfl rfl (by omega)) rfl rfl rfl ?_
      | refine LOps.valG (LVal.mulU64 rfl rfl rfl (by omega)) rfl rfl rfl ?_
      | refine LOps.valG (LVal.remI rfl rfl rfl (by omega)) rfl rfl rfl ?_
      | refine LOps.valG (LVal.quoU64 rfl rfl rfl (by omega)) rfl rfl rfl ?_
      | refine LOps.valG (LVal.quo64 rfl rfl rfl (by omega)) rfl rfl rfl ?_
      | refine LOps.valG (LVal.mul64 rfl rfl rfl (by omega)) rfl rfl rfl ?_
      | refine LOps.valG (LVal.conv64 hD rfl rfl rfl rfl rfl (by omega)) rfl rfl rfl ?_
      | refine LOps.valG (LVal.convU64 hD rfl rfl rfl rfl rfl (by omega)) rfl rfl rfl ?_
      | refine LOps.valG (LVal.neqSame hD rfl rfl rfl) rfl rfl rfl ?_
      | refine LOps.valG (LVal.neqSameB hD rfl rfl rfl rfl rfl) rfl rfl rfl ?_
      | refine LOps.valG (LVal.binOp hD rfl rfl rfl rfl) rfl rfl rfl ?_
      | refine LOps.valG (LVal.unOp rfl rfl rfl) rfl rfl rfl ?_
      | refine LOps.valG (LVal.pick rfl rfl) rfl rfl rfl ?_
      | refine LOps.valG (LVal.extract rfl rfl rfl) rfl rfl rfl ?_
      | refine LOps.valG (LVal.convInt hD rfl rfl rfl rfl rfl) rfl rfl rfl ?_
      | refine LOps.valG (LVal.fieldAddr hD rfl rfl rfl rfl rfl rfl (by decide)) rfl rfl rfl ?_
      | refine LOps.valG (LVal.load hD rfl rfl (by first | assumption | exact box_new _ _ _ | exact box_set _ _ _ | (simp only [box_new, box_set, box_row, box_new_ne, box_set_ne, ne_eq, not_false_eq_true, *] <;> rfl)) rfl rfl) rfl rfl rfl ?_
      | refine LOps.valG (LVal.indexMap hD rfl rfl rfl rfl rfl rfl (by first | assumption | omega) rfl) rfl rfl rfl ?_
      | refine LOps.valG (LVal.loadRo hD rfl rfl rfl rfl) rfl rfl rfl ?_
      | refine LOps.valG (LVal.fieldAddrRo hD rfl rfl rfl rfl rfl rfl (by decide)) rfl rfl rfl ?_
      | refine LOps.valG (LVal.field hD rfl rfl rfl rfl rfl rfl rfl) rfl rfl rfl ?_
      | refine LOps.valG (LVal.buildSlice1 hD rfl rfl rfl rfl rfl rfl rfl rfl rfl rfl) rfl rfl rfl ?_
      | refine LOps.valG (LVal.build hD rfl rfl rfl rfl rfl rfl rfl) rfl rfl rfl ?_
      | refine LOps.valG (LVal.buildSlice hD rfl rfl rfl rfl rfl rfl rfl rfl rfl rfl) rfl rfl rfl ?_
      | refine LOps.valG (LVal.takeMap hD rfl rfl rfl rfl rfl rfl (by first | assumption | omega) rfl (fun _ _ => rfl)) rfl rfl rfl ?_
      | refine LOps.valG (LVal.dropMap hD rfl rfl rfl rfl rfl rfl (by first | assumption | omega) rfl (fun _ _ => rfl)) rfl rfl rfl ?_
      | refine LOps.valG (LVal.cutMap hD rfl rfl rfl rfl rfl rfl rfl (by first | assumption | omega) (by first | assumption | omega) rfl (fun _ _ => rfl)) rfl rfl rfl ?_
      | refine LOps.valG (LVal.move2 rfl rfl) rfl rfl rfl ?_
      | refine LOps.valG (LVal.assign2 rfl rfl) rfl rfl rfl ?_
      | refine LOps.valG (LVal.move (.inl rfl)) rfl rfl rfl ?_
      | refine LOps.valG (LVal.move (.inr rfl)) rfl rfl rfl ?_
      | (refine LOps.do0 (LDo.store hD rfl rfl (by first | assumption | exact box_new _ _ _ | exact box_set _ _ _ | (simp only [box_new, box_set, box_row, box_new_ne, box_set_ne, ne_eq, not_false_eq_true, *] <;> rfl)) rfl rfl rfl rfl) rfl rfl ?_; rintro _ _ ⟨rfl, rfl⟩))
    refine LOps.do (LDo.alloc hD rfl rfl rfl) rfl rfl rfl ?_
    rintro _ _ ⟨b23, hb23, rfl, rfl⟩
    have m5 : b5 ≠ b23 := fresh_ne hb23 hB.h5
    have m6 : b6 ≠ b23 := fresh_ne hb23 hB.h6
    have m7 : b7 ≠ b23 := fresh_ne hb23 hB.h7
    have m22 : b22 ≠ b23 := fresh_ne hb23 hB.h22
    have hB2 := (hB.new hb23 (ti3.zero.cells.toList.map constLV)).set m5 m6 m7 m22 [iv 0]
    repeat (first
      | refine LOps.nil ?_
      | refine andThen_normal ?_
      | refine andThen_exit ?_
      | refine andThen_ret ?_
      | refine inBlock_normal ?_
      | refine inBlock_ret ?_
      | refine inBlock_here ?_
      | refine inBlock_out rfl ?_
      | refine LWp.seq ?_
      | refine LWp.region ?_
      | refine LWp.block ?_
      | refine LWp.exit ?_
      | refine LWp.ret ?_
      | refine LWp.skip ?_
      | refine LOps.out rfl rfl rfl ?_
      | refine LOps.valG (LVal.move1 rfl rfl) rfl rfl rfl ?_
      | refine LOps.valG (LVal.assign1 rfl rfl) rfl rfl rfl ?_
      | refine LOps.valG (LVal.len hD rfl rfl rfl rfl) rfl rfl rfl ?_
      | refine LOps.valG (LVal.lenStr hD rfl rfl rfl rfl) rfl rfl rfl ?_
      | refine LOps.valG (LVal.add64 rfl rfl rfl (by omega)) rfl rfl rfl ?_
      | refine LOps.valG (LVal.sub64 rfl rfl rfl (by omega)) rfl rfl rfl ?_
      | refine LOps.valG (LVal.addU64 rfl rfl rfl (by omega)) rfl rfl rfl ?_
      | refine LOps.valG (LVal.subU64 rfl rfl rfl (by omega)) rfl rfl rfl ?_
      | refine LOps.valG (LVal.mulU64 rfl rfl rfl (by omega)) rfl rfl rfl ?_
      | refine LOps.valG (LVal.remI rfl rfl rfl (by omega)) rfl rfl rfl ?_
      | refine LOps.valG (LVal.quoU64 rfl rfl rfl (by omega)) rfl rfl rfl ?_
      | refine LOps.valG (LVal.quo64 rfl rfl rfl (by omega)) rfl rfl rfl ?_
      | refine LOps.valG (LVal.mul64 rfl rfl rfl (by omega)) rfl rfl rfl ?_
      | refine LOps.valG (LVal.conv64 hD rfl rfl rfl rfl rfl (by omega)) rfl rfl rfl ?_
      | refine LOps.valG (LVal.convU64 hD rfl rfl rfl rfl rfl (by omega)) rfl rfl rfl ?_
      | refine LOps.valG (LVal.neqSame hD rfl rfl rfl) rfl rfl rfl ?_
      | refine LOps.valG (LVal.neqSameB hD rfl rfl rfl rfl rfl) rfl rfl rfl ?_
      | refine LOps.valG (LVal.binOp hD rfl rfl rfl rfl) rfl rfl rfl ?_
      | refine LOps.valG (LVal.unOp rfl rfl rfl) rfl rfl rfl ?_
      | refine LOps.valG (LVal.pick rfl rfl) rfl rfl rfl ?_
      | refine LOps.valG (LVal.extract rfl rfl rfl) rfl rfl rfl ?_
      | refine LOps.valG (LVal.convInt hD rfl rfl rfl rfl rfl) rfl rfl rfl ?_
      | refine LOps.valG (LVal.fieldAddr hD rfl rfl rfl rfl rfl rfl (by decide)) rfl rfl rfl ?_
      | refine LOps.valG (LVal.load hD rfl rfl (by first | assumption | exact box_new _ _ _ | exact box_set _ _ _ | (simp only [box_new, box_set, box_row, box_new_ne, box_set_ne, ne_eq, not_false_eq_true, *] <;> rfl)) rfl rfl) rfl rfl rfl ?_
      | refine LOps.valG (LVal.indexMap hD rfl rfl rfl rfl rfl rfl (by first | assumption | omega) rfl) rfl rfl rfl ?_
      | refine LOps.valG (LVal.loadRo hD rfl rfl rfl rfl) rfl rfl rfl ?_
      | refine LOps.valG (LVal.fieldAddrRo hD rfl rfl rfl rfl rfl rfl (by decide)) rfl rfl rfl ?_
      | refine LOps.valG (LVal.field hD rfl rfl rfl rfl rfl rfl rfl) rfl rfl rfl ?_
      | refine LOps.valG (LVal.buildSlice1 hD rfl rfl rfl rfl rfl rfl rfl rfl rfl rfl) rfl rfl rfl ?_
      | refine LOps.valG (LVal.build hD rfl rfl rfl rfl rfl rfl rfl) rfl rfl rfl ?_
      | refine LOps.valG (LVal.buildSlice hD rfl rfl rfl rfl rfl rfl rfl rfl rfl rfl) rfl rfl rfl ?_
      | refine LOps.valG (LVal.takeMap hD rfl rfl rfl rfl rfl rfl (by first | assumption | omega) rfl (fun _ _ => rfl)) rfl rfl rfl ?_
      | refine LOps.valG (LVal.dropMap hD rfl rfl rfl rfl rfl rfl (by first | assumption | omega) rfl (fun _ _ => rfl)) rfl rfl rfl ?_
      | refine LOps.valG (LVal.cutMap hD rfl rfl rfl rfl rfl rfl rfl (by first | assumption | omega) (by first | assumption | omega) rfl (fun _ _ => rfl)) rfl rfl rfl ?_
      | refine LOps.valG (LVal.move2 rfl rfl) rfl rfl rfl ?_
      | refine LOps.valG (LVal.assign2 rfl rfl) rfl rfl rfl ?_
      | refine LOps.valG (LVal.move (.inl rfl)) rfl rfl rfl ?_
      | refine LOps.valG (LVal.move (.inr rfl)) rfl rfl rfl ?_
      | (refine LOps.do0 (LDo.store hD rfl rfl (by first | assumption | exact box_new _ _ _ | exact box_set _ _ _ | (simp only [box_new, box_set, box_row, box_new_ne, box_set_ne, ne_eq, not_false_eq_true, *] <;> rfl)) rfl rfl rfl rfl) rfl rfl ?_; rintro _ _ ⟨rfl, rfl⟩))
    refine LOps.gen (fun S => Boxes b5 b6 b7 b22 leave U F a S ∧ S.box b23 = some [iv 0]) ⟨hB2, box_set _ _ _⟩ ?_
    clear hB2 hb23 hB H22
    rintro S2 ⟨hB, z⟩
    refine LOps.do (LDo.call rfl rfl (by rw [hP]; exact Try.func17) rfl (by decide) (all_L hP p _)) rfl rfl rfl ?_
    rintro _ _ ⟨bc, hbc, rfl, rfl⟩
    repeat (first
      | refine LOps.nil ?_
      | refine andThen_normal ?_
      | refine andThen_exit ?_
      | refine andThen_ret ?_
      | refine inBlock_normal ?_
      | refine inBlock_ret ?_
      | refine inBlock_here ?_
      | refine inBlock_out rfl ?_
      | refine LWp.seq ?_
      | refine LWp.region ?_
      | refine LWp.block ?_
      | refine LWp.exit ?_
      | refine LWp.ret ?_
      | refine LWp.skip ?_
      | refine LOps.out rfl rfl rfl ?_
      | refine LOps.valG (LVal.move1 rfl rfl) rfl rfl rfl ?_
      | refine LOps.valG (LVal.assign1 rfl rfl) rfl rfl rfl ?_
      | refine LOps.valG (LVal.len hD rfl rfl rfl rfl) rfl rfl rfl ?_
      | refine LOps.valG (LVal.lenStr hD rfl rfl rfl rfl) rfl rfl rfl ?_
      | refine LOps.valG (LVal.add64 rfl rfl rfl (by omega)) rfl rfl rfl ?_
      | refine LOps.valG (LVal.sub64 rfl rfl rfl (by omega)) rfl rfl rfl ?_
      | refine LOps.valG (LVal.addU64 rfl rfl rfl (by omega)) rfl rfl rfl ?_
      | refine LOps.valG (LVal.subU64 rfl rfl rfl (by omega)) rfl rfl rfl ?_
      | refine LOps.valG (LVal.mulU64 rfl rfl rfl (by omega)) rfl rfl rfl ?_
      | refine LOps.valG (LVal.remI rfl rfl rfl (by omega)) rfl rfl rfl ?_
      | refine LOps.valG (LVal.quoU64 rfl rfl rfl (by omega)) rfl rfl rfl ?_
      | refine LOps.valG (LVal.quo64 rfl rfl rfl (by omega)) rfl rfl rfl ?_
      | refine LOps.valG (LVal.mul64 rfl rfl rfl (by omega)) rfl rfl rfl ?_
      | refine LOps.valG (LVal.conv64 hD rfl rfl rfl rfl rfl (by omega)) rfl rfl rfl ?_
      | refine LOps.valG (LVal.convU64 hD rfl rfl rfl rfl rfl (by omega)) rfl rfl rfl ?_
      | refine LOps.valG (LVal.neqSame hD rfl rfl rfl) rfl rfl rfl ?_
      | refine LOps.valG (LVal.neqSameB hD rfl rfl rfl rfl rfl) rfl rfl rfl ?_
      | refine LOps.valG (LVal.binOp hD rfl rfl rfl rfl) rfl rfl rfl ?_
      | refine LOps.valG (LVal.unOp rfl rfl rfl) rfl rfl rfl ?_
      | refine LOps.valG (LVal.pick rfl rfl) rfl rfl rfl ?_
      | refine LOps.valG (LVal.extract rfl rfl rfl) rfl rfl rfl ?_
      | refine LOps.valG (LVal.convInt hD rfl rfl rfl rfl rfl) rfl rfl rfl ?_
      | refine LOps.valG (LVal.fieldAddr hD rfl rfl rfl rfl rfl rfl (by decide)) rfl rfl rfl ?_
      | refine LOps.valG (LVal.load hD rfl rfl (by first | assumption | exact box_new _ _ _ | exact box_set _ _ _ | (simp only [box_new, box_set, box_row, box_new_ne, box_set_ne, ne_eq, not_false_eq_true, *] <;> rfl)) rfl rfl) rfl rfl rfl ?_
      | refine LOps.valG (LVal.indexMap hD rfl rfl rfl rfl rfl rfl (by first | assumption | omega) rfl) rfl rfl rfl ?_
      | refine LOps.valG (LVal.loadRo hD rfl rfl rfl rfl) rfl rfl rfl ?_
      | refine LOps.valG (LVal.fieldAddrRo hD rfl rfl rfl rfl rfl rfl (by decide)) rfl rfl rfl ?_
      | refine LOps.valG (LVal.field hD rfl rfl rfl rfl rfl rfl rfl) rfl rfl rfl ?_
      | refine LOps.valG (LVal.buildSlice1 hD rfl rfl rfl rfl rfl rfl rfl rfl rfl rfl) rfl rfl rfl ?_
      | refine LOps.valG (LVal.build hD rfl rfl rfl rfl rfl rfl rfl) rfl rfl rfl ?_
      | refine LOps.valG (LVal.buildSlice hD rfl rfl rfl rfl rfl rfl rfl rfl rfl rfl) rfl rfl rfl ?_
      | refine LOps.valG (LVal.takeMap hD rfl rfl rfl rfl rfl rfl (by first | assumption | omega) rfl (fun _ _ => rfl)) rfl rfl rfl ?_
      | refine LOps.valG (LVal.dropMap hD rfl rfl rfl rfl rfl rfl (by first | assumption | omega) rfl (fun _ _ => rfl)) rfl rfl rfl ?_
      | refine LOps.valG (LVal.cutMap hD rfl rfl rfl rfl rfl rfl rfl (by first | assumption | omega) (by first | assumption | omega) rfl (fun _ _ => rfl)) rfl rfl rfl ?_
      | refine LOps.valG (LVal.move2 rfl rfl) rfl rfl rfl ?_
      | refine LOps.valG (LVal.assign2 rfl rfl) rfl rfl rfl ?_
      | refine LOps.valG (LVal.move (.inl rfl)) rfl rfl rfl ?_
      | refine LOps.valG (LVal.move (.inr rfl)) rfl rfl rfl ?_
      | (refine LOps.do0 (LDo.store hD rfl rfl (by first | assumption | exact box_new _ _ _ | exact box_set _ _ _ | (simp only [box_new, box_set, box_row, box_new_ne, box_set_ne, ne_eq, not_false_eq_true, *] <;> rfl)) rfl rfl rfl rfl) rfl rfl ?_; rintro _ _ ⟨rfl, rfl⟩))
    refine LWp.condF rfl ?_
    repeat (first
      | refine LOps.nil ?_
      | refine andThen_normal ?_
      | refine andThen_exit ?_
      | refine andThen_ret ?_
      | refine inBlock_normal ?_
      | refine inBlock_ret ?_
      | refine inBlock_here ?_
      | refine inBlock_out rfl ?_
      | refine LWp.seq ?_
      | refine LWp.region ?_
      | refine LWp.block ?_
      | refine LWp.exit ?_
      | refine LWp.ret ?_
      | refine LWp.skip ?_
      | refine LOps.out rfl rfl rfl ?_
      | refine LOps.valG (LVal.move1 rfl rfl) rfl rfl rfl ?_
      | refine LOps.valG (LVal.assign1 rfl rfl) rfl rfl rfl ?_
      | refine LOps.valG (LVal.len hD rfl rfl rfl rfl) rfl rfl rfl ?_
      | refine LOps.valG (LVal.lenStr hD rfl rfl rfl rfl) rfl rfl rfl ?_
      | refine LOps.valG (LVal.add64 rfl rfl rfl (by omega)) rfl rfl rfl ?_
      | refine LOps.valG (LVal.sub64 rfl rfl rfl (by omega)) rfl rfl rfl ?_
      | refine LOps.valG (LVal.addU64 rfl rfl rfl (by omega)) rfl rfl rfl ?_
      | refine LOps.valG (LVal.subU64 rfl rfl rfl (by omega)) rfl rfl rfl ?_
      | refine LOps.valG (LVal.mulU64 rfl rfl rfl (by omega)) rfl rfl rfl ?_
      | refine LOps.valG (LVal.remI rfl rfl rfl (by omega)) rfl rfl rfl ?_
      | refine LOps.valG (LVal.quoU64 rfl rfl rfl (by omega)) rfl rfl rfl ?_
      | refine LOps.valG (LVal.quo64 rfl rfl rfl (by omega)) rfl rfl rfl ?_
      | refine LOps.valG (LVal.mul64 rfl rfl rfl (by omega)) rfl rfl rfl ?_
      | refine LOps.valG (LVal.conv64 hD rfl rfl rfl rfl rfl (by omega)) rfl rfl rfl ?_
      | refine LOps.valG (LVal.convU64 hD rfl rfl rfl rfl rfl (by omega)) rfl rfl rfl ?_
      | refine LOps.valG (LVal.neqSame hD rfl rfl rfl) rfl rfl rfl ?_
      | refine LOps.valG (LVal.neqSameB hD rfl rfl rfl rfl rfl) rfl rfl rfl ?_
      | refine LOps.valG (LVal.binOp hD rfl rfl rfl rfl) rfl rfl rfl ?_
      | refine LOps.valG (LVal.unOp rfl rfl rfl) rfl rfl rfl ?_
      | refine LOps.valG (LVal.pick rfl rfl) rfl rfl rfl ?_
      | refine LOps.valG (LVal.extract rfl rfl rfl) rfl rfl rfl ?_
      | refine LOps.valG (LVal.convInt hD rfl rfl rfl rfl rfl) rfl rfl rfl ?_
      | refine LOps.valG (LVal.fieldAddr hD rfl rfl rfl rfl rfl rfl (by decide)) rfl rfl rfl ?_
      | refine LOps.valG (LVal.load hD rfl rfl (by first | assumption | exact box_new _ _ _ | exact box_set _ _ _ | (simp only [box_new, box_set, box_row, box_new_ne, box_set_ne, ne_eq, not_false_eq_true, *] <;> rfl)) rfl rfl) rfl rfl rfl ?_
      | refine LOps.valG (LVal.indexMap hD rfl rfl rfl rfl rfl rfl (by first | assumption | omega) rfl) rfl rfl rfl ?_
      | refine LOps.valG (LVal.loadRo hD rfl rfl rfl rfl) rfl rfl rfl ?_
      | refine LOps.valG (LVal.fieldAddrRo hD rfl rfl rfl rfl rfl rfl (by decide)) rfl rfl rfl ?_
      | refine LOps.valG (LVal.field hD rfl rfl rfl rfl rfl rfl rfl) rfl rfl rfl ?_
      | refine LOps.valG (LVal.buildSlice1 hD rfl rfl rfl rfl rfl rfl rfl rfl rfl rfl) rfl rfl rfl ?_
      | refine LOps.valG (LVal.build hD rfl rfl rfl rfl rfl rfl rfl) rfl rfl rfl ?_
      | refine LOps.valG (LVal.buildSlice hD rfl rfl rfl rfl rfl rfl rfl rfl rfl rfl) rfl rfl rfl ?_
      | refine LOps.valG (LVal.takeMap hD rfl rfl rfl rfl rfl rfl (by first | assumption | omega) rfl (fun _ _ => rfl)) rfl rfl rfl ?_
      | refine LOps.valG (LVal.dropMap hD rfl rfl rfl rfl rfl rfl (by first | assumption | omega) rfl (fun _ _ => rfl)) rfl rfl rfl ?_
      | refine LOps.valG (LVal.cutMap hD rfl rfl rfl rfl rfl rfl rfl (by first | assumption | omega) (by first | assumption | omega) rfl (fun _ _ => rfl)) rfl rfl rfl ?_
      | refine LOps.valG (LVal.move2 rfl rfl) rfl rfl rfl ?_
      | refine LOps.valG (LVal.assign2 rfl rfl) rfl rfl rfl ?_
      | refine LOps.valG (LVal.move (.inl rfl)) rfl rfl rfl ?_
      | refine LOps.valG (LVal.move (.inr rfl)) rfl rfl rfl ?_
      | (refine LOps.do0 (LDo.store hD rfl rfl (by first | assumption | exact box_new _ _ _ | exact box_set _ _ _ | (simp only [box_new, box_set, box_row, box_new_ne, box_set_ne, ne_eq, not_false_eq_true, *] <;> rfl)) rfl rfl rfl rfl) rfl rfl ?_; rintro _ _ ⟨rfl, rfl⟩))
    refine LOps.gen (fun S => Boxes b5 b6 b7 b22 leave U F a S ∧ S.box b23 = some [iv 0]) ⟨hB.new hbc _, (box_new_ne _ _ (fresh_ne hbc z)).trans z⟩ ?_
    clear hB z
    rintro S3 ⟨hB, z⟩
    refine LOps.do (LDo.call rfl rfl (by rw [hP]; exact Try.func17) rfl (by decide) (all_L hP p _)) rfl rfl rfl ?_
    rintro _ _ ⟨bd, hbd, rfl, rfl⟩
    repeat (first
      | refine LOps.nil ?_
      | refine andThen_normal ?_
      | refine andThen_exit ?_
      | refine andThen_ret ?_
      | refine inBlock_normal ?_
      | refine inBlock_ret ?_
      | refine inBlock_here ?_
      | refine inBlock_out rfl ?_
      | refine LWp.seq ?_
      | refine LWp.region ?_
      | refine LWp.block ?_
      | refine LWp.exit ?_
      | refine LWp.ret ?_
      | refine LWp.skip ?_
      | refine LOps.out rfl rfl rfl ?_
      | refine LOps.valG (LVal.move1 rfl rfl) rfl rfl rfl ?_
      | refine LOps.valG (LVal.assign1 rfl rfl) rfl rfl rfl ?_
      | refine LOps.valG (LVal.len hD rfl rfl rfl rfl) rfl rfl rfl ?_
      | refine LOps.valG (LVal.lenStr hD rfl rfl rfl rfl) rfl rfl rfl ?_
      | refine LOps.valG (LVal.add64 rfl rfl rfl (by omega)) rfl rfl rfl ?_
      | refine LOps.valG (LVal.sub64 rfl rfl rfl (by omega)) rfl rfl rfl ?_
      | refine LOps.valG (LVal.addU64 rfl rfl rfl (by omega)) rfl rfl rfl ?_
      | refine LOps.valG (LVal.subU64 rfl rfl rfl (by omega)) rfl rfl rfl ?_
      | refine LOps.valG (LVal.mulU64 rfl rfl rfl (by omega)) rfl rfl rfl ?_
      | refine LOps.valG (LVal.remI rfl rfl rfl (by omega)) rfl rfl rfl ?_
      | refine LOps.valG (LVal.quoU64 rfl rfl rfl (by omega)) rfl rfl rfl ?_
      | refine LOps.valG (LVal.quo64 rfl rfl rfl (by omega)) rfl rfl rfl ?_
      | refine LOps.valG (LVal.mul64 rfl rfl rfl (by omega)) rfl rfl rfl ?_
      | refine LOps.valG (LVal.conv64 hD rfl rfl rfl rfl rfl (by omega)) rfl rfl rfl ?_
      | refine LOps.valG (LVal.convU64 hD rfl rfl rfl rfl rfl (by omega)) rfl rfl rfl ?_
      | refine LOps.valG (LVal.neqSame hD rfl rfl rfl) rfl rfl rfl ?_
      | refine LOps.valG (LVal.neqSameB hD rfl rfl rfl rfl rfl) rfl rfl rfl ?_
      | refine LOps.valG (LVal.binOp hD rfl rfl rfl rfl) rfl rfl rfl ?_
      | refine LOps.valG (LVal.unOp rfl rfl rfl) rfl rfl rfl ?_
      | refine LOps.valG (LVal.pick rfl rfl) rfl rfl rfl ?_
      | refine LOps.valG (LVal.extract rfl rfl rfl) rfl rfl rfl ?_
      | refine LOps.valG (LVal.convInt hD rfl rfl rfl rfl rfl) rfl rfl rfl ?_
      | refine LOps.valG (LVal.fieldAddr hD rfl rfl rfl rfl rfl rfl (by decide)) rfl rfl rfl ?_
      | refine LOps.valG (LVal.load hD rfl rfl (by first | assumption | exact box_new _ _ _ | exact box_set _ _ _ | (simp only [box_new, box_set, box_row, box_new_ne, box_set_ne, ne_eq, not_false_eq_true, *] <;> rfl)) rfl rfl) rfl rfl rfl ?_
      | refine LOps.valG (LVal.indexMap hD rfl rfl rfl rfl rfl rfl (by first | assumption | omega) rfl) rfl rfl rfl ?_
      | refine LOps.valG (LVal.loadRo hD rfl rfl rfl rfl) rfl rfl rfl ?_
      | refine LOps.valG (LVal.fieldAddrRo hD rfl rfl rfl rfl rfl rfl (by decide)) rfl rfl rfl ?_
      | refine LOps.valG (LVal.field hD rfl rfl rfl rfl rfl rfl rfl) rfl rfl rfl ?_
      | refine LOps.valG (LVal.buildSlice1 hD rfl rfl rfl rfl rfl rfl rfl rfl rfl rfl) rfl rfl rfl ?_
      | refine LOps.valG (LVal.build hD rfl rfl rfl rfl rfl rfl rfl) rfl rfl rfl ?_
      | refine LOps.valG (LVal.buildSlice hD rfl rfl rfl rfl rfl rfl rfl rfl rfl rfl) rfl rfl rfl ?_
      | refine LOps.valG (LVal.takeMap hD rfl rfl rfl rfl rfl rfl (by first | assumption | omega) rfl (fun _ _ => rfl)) rfl rfl rfl ?_
      | refine LOps.valG (LVal.dropMap hD rfl rfl rfl rfl rfl rfl (by first | assumption | omega) rfl (fun _ _ => rfl)) rfl rfl rfl ?_
      | refine LOps.valG (LVal.cutMap hD rfl rfl rfl rfl rfl rfl rfl (by first | assumption | omega) (by first | assumption | omega) rfl (fun _ _ => rfl)) rfl rfl rfl ?_
      | refine LOps.valG (LVal.move2 rfl rfl) rfl rfl rfl ?_
      | refine LOps.valG (LVal.assign2 rfl rfl) rfl rfl rfl ?_
      | refine LOps.valG (LVal.move (.inl rfl)) rfl rfl rfl ?_
      | refine LOps.valG (LVal.move (.inr rfl)) rfl rfl rfl ?_
      | (refine LOps.do0 (LDo.store hD rfl rfl (by first | assumption | exact box_new _ _ _ | exact box_set _ _ _ | (simp only [box_new, box_set, box_row, box_new_ne, box_set_ne, ne_eq, not_false_eq_true, *] <;> rfl)) rfl rfl rfl rfl) rfl rfl ?_; rintro _ _ ⟨rfl, rfl⟩))
    refine LWp.gen (fun S => Boxes b5 b6 b7 b22 leave U F a S ∧ S.box b23 = some [iv 0] ∧ S.box bd = some [.v (.int .u64 p)]) ⟨hB.new hbd _, (box_new_ne _ _ (fresh_ne hbd z)).trans z, box_new _ _ _⟩ ?_
    have nd := fresh_ne hbd z
    clear hB z hbd hbc S2 S3 S' S
    rintro S ⟨hB, z, hd⟩
    refine LWp.rangeFunc (xs := yields p) (C := fun S => S.box bd = some [.v (.int .u64 p)]) rfl (by rw [hP]; exact Try.func23) rfl rfl rfl rfl (fun x hx => by
        obtain ⟨k, _, rfl⟩ := List.mem_map.1 hx; rfl) (fun G' h => all_iter (h.trans hP) p bd hp)
      (fun k S => Boxes b5 b6 b7 b22 leave U F a S ∧ S.box b23 = some [iv (k : Nat)] ∧ S.box bd = some [.v (.int .u64 p)])
      (fun c k S => c = .exit 2 ∧ ((k : Nat) : Int) = leave ∧ a = 0 ∧ Boxes b5 b6 b7 b22 leave U F a S ∧ S.box b23 = some [iv (k : Nat)])
      (fun k S S' h hle => ⟨h.1.leB hle, hle.box _ _ h.2.1, hle.box _ _ h.2.2⟩) (fun c k S S' h hle => ⟨h.1, h.2.1, h.2.2.1, h.2.2.2.1.leB hle, hle.box _ _ h.2.2.2.2⟩) (fun k S h => h.2.2) ⟨hB, z, hd⟩ ?_ ?_ ?_
    · clear hB z hd S
      rintro l k x S o hx ⟨hB, z, hd⟩ ho
      have hk : k < usedN p := by
        have := (List.getElem?_eq_some_iff.1 hx).1
        simpa [yields] using this
      have hkU : k < U.length := by omega
      have hu16 : usedN p ≤ 16 := by unfold usedN; split <;> omega
      have hxe : x = [.one (iv (k : Nat)), .one (iv (U[k] : Nat))] := by
        have h1 := hUk k hk
        rw [List.getElem?_eq_getElem hkU] at h1
        have h2 : U[k] = nib p k := by simpa using h1
        rw [h2]
        simpa [yields, hk, eq_comm] using hx
      subst hxe
      clear hx
      repeat (first
        | refine LOps.nil ?_
        | refine andThen_normal ?_
        | refine andThen_exit ?_
        | refine andThen_ret ?_
        | refine inBlock_normal ?_
        | refine inBlock_ret ?_
        | refine inBlock_here ?_
        | refine inBlock_out rfl ?_
        | refine LWp.seq ?_
        | refine LWp.region ?_
        | refine LWp.block ?_
        | refine LWp.exit ?_
        | refine LWp.ret ?_
        | refine LWp.skip ?_
        | refine LOps.out rfl rfl rfl ?_
        | refine LOps.valG (LVal.move1 rfl rfl) rfl rfl rfl ?_
        | refine LOps.valG (LVal.assign1 rfl rfl) rfl rfl rfl ?_
        | refine LOps.valG (LVal.len hD rfl rfl rfl rfl) rfl rfl rfl ?_
        | refine LOps.valG (LVal.lenStr hD rfl rfl rfl rfl) rfl rfl rfl ?_
        | refine LOps.valG (LVal.add64 rfl rfl rfl (by omega)) rfl rfl rfl ?_
        | refine LOps.valG (LVal.sub64 rfl rfl rfl (by omega)) rfl rfl rfl ?_
        | refine LOps.valG (LVal.addU64 rfl rfl rfl (by omega)) rfl rfl rfl ?_
        | refine LOps.valG (LVal.subU64 rfl rfl rfl (by omega)) rfl rfl rfl ?_
        | refine LOps.valG (LVal.mulU64 rfl rfl rfl (by omega)) rfl rfl rfl ?_
        | refine LOps.valG (LVal.remI rfl rfl rfl (by omega)) rfl rfl rfl ?_
        | refine LOps.valG (LVal.quoU64 rfl rfl rfl (by omega)) rfl rfl rfl ?_
        | refine LOps.valG (LVal.quo64 rfl rfl rfl (by omega)) rfl rfl rfl ?_
        | refine LOps.valG (LVal.mul64 rfl rfl rfl (by omega)) rfl rfl rfl ?_
        | refine LOps.valG (LVal.conv64 hD rfl rfl rfl rfl rfl (by omega)) rfl rfl rfl ?_
        | refine LOps.valG (LVal.convU64 hD rfl rfl rfl rfl rfl (by omega)) rfl rfl rfl ?_
        | refine LOps.valG (LVal.neqSame hD rfl rfl rfl) rfl rfl rfl ?_
        | refine LOps.valG (LVal.neqSameB hD rfl rfl rfl rfl rfl) rfl rfl rfl ?_
        | refine LOps.valG (LVal.binOp hD rfl rfl rfl rfl) rfl rfl rfl ?_
        | refine LOps.valG (LVal.unOp rfl rfl rfl) rfl rfl rfl ?_
        | refine LOps.valG (LVal.pick rfl rfl) rfl rfl rfl ?_
        | refine LOps.valG (LVal.extract rfl rfl rfl) rfl rfl rfl ?_
        | refine LOps.valG (LVal.convInt hD rfl rfl rfl rfl rfl) rfl rfl rfl ?_
        | refine LOps.valG (LVal.fieldAddr hD rfl rfl rfl rfl rfl rfl (by decide)) rfl rfl rfl ?_
        | refine LOps.valG (LVal.load hD rfl rfl (by first | assumption | exact box_new _ _ _ | exact box_set _ _ _ | (simp only [box_new, box_set, box_row, box_new_ne, box_set_ne, ne_eq, not_false_eq_true, *] <;> rfl)) rfl rfl) rfl rfl rfl ?_
        | refine LOps.valG (LVal.indexMap hD rfl rfl rfl rfl rfl rfl (by first | assumption | omega) rfl) rfl rfl rfl ?_
        | refine LOps.valG (LVal.loadRo hD rfl rfl rfl rfl) rfl rfl rfl ?_
        | refine LOps.valG (LVal.fieldAddrRo hD rfl rfl rfl rfl rfl rfl (by decide)) rfl rfl rfl ?_
        | refine LOps.valG (LVal.field hD rfl rfl rfl rfl rfl rfl rfl) rfl rfl rfl ?_
        | refine LOps.valG (LVal.buildSlice1 hD rfl rfl rfl rfl rfl rfl rfl rfl rfl rfl) rfl rfl rfl ?_
        | refine LOps.valG (LVal.build hD rfl rfl rfl rfl rfl rfl rfl) rfl rfl rfl ?_
        | refine LOps.valG (LVal.buildSlice hD rfl rfl rfl rfl rfl rfl rfl rfl rfl rfl) rfl rfl rfl ?_
        | refine LOps.valG (LVal.takeMap hD rfl rfl rfl rfl rfl rfl (by first | assumption | omega) rfl (fun _ _ => rfl)) rfl rfl rfl ?_
        | refine LOps.valG (LVal.dropMap hD rfl rfl rfl rfl rfl rfl (by first | assumption | omega) rfl (fun _ _ => rfl)) rfl rfl rfl ?_
        | refine LOps.valG (LVal.cutMap hD rfl rfl rfl rfl rfl rfl rfl (by first | assumption | omega) (by first | assumption | omega) rfl (fun _ _ => rfl)) rfl rfl rfl ?_
        | refine LOps.valG (LVal.move2 rfl rfl) rfl rfl rfl ?_
        | refine LOps.valG (LVal.assign2 rfl rfl) rfl rfl rfl ?_
        | refine LOps.valG (LVal.move (.inl rfl)) rfl rfl rfl ?_
        | refine LOps.valG (LVal.move (.inr rfl)) rfl rfl rfl ?_
        | (refine LOps.do0 (LDo.store hD rfl rfl (by first | assumption | exact box_new _ _ _ | exact box_set _ _ _ | (simp only [box_new, box_set, box_row, box_new_ne, box_set_ne, ne_eq, not_false_eq_true, *] <;> rfl)) rfl rfl rfl rfl) rfl rfl ?_; rintro _ _ ⟨rfl, rfl⟩))
      refine ⟨rfl, ho, fun o' => ?_⟩
      refine LWp.gen (fun S => S.obj l = some o' ∧ Boxes b5 b6 b7 b22 leave U F a S ∧ S.box b23 = some [iv (k : Nat)] ∧ S.box bd = some [.v (.int .u64 p)]) ⟨setObj_obj _ _ _, ⟨hB.h5, hB.h6, hB.h7, hB.h22⟩, z, hd⟩ ?_
      clear hB z hd ho S o
      rintro S ⟨ho, hB, z, hd⟩
      have k5 := hB.h5
      have k7 := hB.h7
      have k22 := hB.h22
      repeat (first
        | refine LOps.nil ?_
        | refine andThen_normal ?_
        | refine andThen_exit ?_
        | refine andThen_ret ?_
        | refine inBlock_normal ?_
        | refine inBlock_ret ?_
        | refine inBlock_here ?_
        | refine inBlock_out rfl ?_
        | refine LWp.seq ?_
        | refine LWp.region ?_
        | refine LWp.block ?_
        | refine LWp.exit ?_
        | refine LWp.ret ?_
        | refine LWp.skip ?_
        | refine LOps.out rfl rfl rfl ?_
        | refine LOps.valG (LVal.move1 rfl rfl) rfl rfl rfl ?_
        | refine LOps.valG (LVal.assign1 rfl rfl) rfl rfl rfl ?_
        | refine LOps.valG (LVal.len hD rfl rfl rfl rfl) rfl rfl rfl ?_
        | refine LOps.valG (LVal.lenStr hD rfl rfl rfl rfl) rfl rfl rfl ?_
        | refine LOps.valG (LVal.add64 rfl rfl rfl (by omega)) rfl rfl rfl ?_
        | refine LOps.valG (LVal.sub64 rfl rfl rfl (by omega)) rfl rfl rfl ?_
        | refine LOps.valG (LVal.addU64 rfl rfl rfl (by omega)) rfl rfl rfl ?_
        | refine LOps.valG (LVal.subU64 rfl rfl rfl (by omega)) rfl rfl rfl ?_
        | refine LOps.valG (LVal.mulU64 rfl rfl rfl (by omega)) rfl rfl rfl ?_
        | refine LOps.valG (LVal.remI rfl rfl rfl (by omega)) rfl rfl rfl ?_
        | refine LOps.valG (LVal.quoU64 rfl rfl rfl (by omega)) rfl rfl rfl ?_
        | refine LOps.valG (LVal.quo64 rfl rfl rfl (by omega)) rfl rfl rfl ?_
        | refine LOps.valG (LVal.mul64 rfl rfl rfl (by omega)) rfl rfl rfl ?_
        | refine LOps.valG (LVal.conv64 hD rfl rfl rfl rfl rfl (by omega)) rfl rfl rfl ?_
        | refine LOps.valG (LVal.convU64 hD rfl rfl rfl rfl rfl (by omega)) rfl rfl rfl ?_
        | refine LOps.valG (LVal.neqSame hD rfl rfl rfl) rfl rfl rfl ?_
        | refine LOps.valG (LVal.neqSameB hD rfl rfl rfl rfl rfl) rfl rfl rfl ?_
        | refine LOps.valG (LVal.binOp hD rfl rfl rfl rfl) rfl rfl rfl ?_
        | refine LOps.valG (LVal.unOp rfl rfl rfl) rfl rfl rfl ?_
        | refine LOps.valG (LVal.pick rfl rfl) rfl rfl rfl ?_
        | refine LOps.valG (LVal.extract rfl rfl rfl) rfl rfl rfl ?_
        | refine LOps.valG (LVal.convInt hD rfl rfl rfl rfl rfl) rfl rfl rfl ?_
        | refine LOps.valG (LVal.fieldAddr hD rfl rfl rfl rfl rfl rfl (by decide)) rfl rfl rfl ?_
        | refine LOps.valG (LVal.load hD rfl rfl (by first | assumption | exact box_new _ _ _ | exact box_set _ _ _ | (simp only [box_new, box_set, box_row, box_new_ne, box_set_ne, ne_eq, not_false_eq_true, *] <;> rfl)) rfl rfl) rfl rfl rfl ?_
        | refine LOps.valG (LVal.indexMap hD rfl rfl rfl rfl rfl rfl (by first | assumption | omega) rfl) rfl rfl rfl ?_
        | refine LOps.valG (LVal.loadRo hD rfl rfl rfl rfl) rfl rfl rfl ?_
        | refine LOps.valG (LVal.fieldAddrRo hD rfl rfl rfl rfl rfl rfl (by decide)) rfl rfl rfl ?_
        | refine LOps.valG (LVal.field hD rfl rfl rfl rfl rfl rfl rfl) rfl rfl rfl ?_
        | refine LOps.valG (LVal.buildSlice1 hD rfl rfl rfl rfl rfl rfl rfl rfl rfl rfl) rfl rfl rfl ?_
        | refine LOps.valG (LVal.build hD rfl rfl rfl rfl rfl rfl rfl) rfl rfl rfl ?_
        | refine LOps.valG (LVal.buildSlice hD rfl rfl rfl rfl rfl rfl rfl rfl rfl rfl) rfl rfl rfl ?_
        | refine LOps.valG (LVal.takeMap hD rfl rfl rfl rfl rfl rfl (by first | assumption | omega) rfl (fun _ _ => rfl)) rfl rfl rfl ?_
        | refine LOps.valG (LVal.dropMap hD rfl rfl rfl rfl rfl rfl (by first | assumption | omega) rfl (fun _ _ => rfl)) rfl rfl rfl ?_
        | refine LOps.valG (LVal.cutMap hD rfl rfl rfl rfl rfl rfl rfl (by first | assumption | omega) (by first | assumption | omega) rfl (fun _ _ => rfl)) rfl rfl rfl ?_
        | refine LOps.valG (LVal.move2 rfl rfl) rfl rfl rfl ?_
        | refine LOps.valG (LVal.assign2 rfl rfl) rfl rfl rfl ?_
        | refine LOps.valG (LVal.move (.inl rfl)) rfl rfl rfl ?_
        | refine LOps.valG (LVal.move (.inr rfl)) rfl rfl rfl ?_
        | (refine LOps.do0 (LDo.store hD rfl rfl (by first | assumption | exact box_new _ _ _ | exact box_set _ _ _ | (simp only [box_new, box_set, box_row, box_new_ne, box_set_ne, ne_eq, not_false_eq_true, *] <;> rfl)) rfl rfl rfl rfl) rfl rfl ?_; rintro _ _ ⟨rfl, rfl⟩))
      refine LOps.guard rfl rfl rfl (fun hg => ?_) (fun hg => ?_)
      · have := of_decide_eq_true hg; rw [iList_len] at this; omega
      repeat (first
        | refine LOps.nil ?_
        | refine andThen_normal ?_
        | refine andThen_exit ?_
        | refine andThen_ret ?_
        | refine inBlock_normal ?_
        | refine inBlock_ret ?_
        | refine inBlock_here ?_
        | refine inBlock_out rfl ?_
        | refine LWp.seq ?_
        | refine LWp.region ?_
        | refine LWp.block ?_
        | refine LWp.exit ?_
        | refine LWp.ret ?_
        | refine LWp.skip ?_
        | refine LOps.out rfl rfl rfl ?_
        | refine LOps.valG (LVal.move1 rfl rfl) rfl rfl rfl ?_
        | refine LOps.valG (LVal.assign1 rfl rfl) rfl rfl rfl ?_
        | refine LOps.valG (LVal.len hD rfl rfl rfl rfl) rfl rfl rfl ?_
        | refine LOps.valG (LVal.lenStr hD rfl rfl rfl rfl) rfl rfl rfl ?_
        | refine LOps.valG (LVal.add64 rfl rfl rfl (by omega)) rfl rfl rfl ?_
        | refine LOps.valG (LVal.sub64 rfl rfl rfl (by omega)) rfl rfl rfl ?_
        | refine LOps.valG (LVal.addU64 rfl rfl rfl (by omega)) rfl rfl rfl ?_
        | refine LOps.valG (LVal.subU64 rfl rfl rfl (by omega)) rfl rfl rfl ?_
        | refine LOps.valG (LVal.mulU64 rfl rfl rfl (by omega)) rfl rfl rfl ?_
        | refine LOps.valG (LVal.remI rfl rfl rfl (by omega)) rfl rfl rfl ?_
        | refine LOps.valG (LVal.quoU64 rfl rfl rfl (by omega)) rfl rfl rfl ?_
        | refine LOps.valG (LVal.quo64 rfl rfl rfl (by omega)) rfl rfl rfl ?_
        | refine LOps.valG (LVal.mul64 rfl rfl rfl (by omega)) rfl rfl rfl ?_
        | refine LOps.valG (LVal.conv64 hD rfl rfl rfl rfl rfl (by omega)) rfl rfl rfl ?_
        | refine LOps.valG (LVal.convU64 hD rfl rfl rfl rfl rfl (by omega)) rfl rfl rfl ?_
        | refine LOps.valG (LVal.neqSame hD rfl rfl rfl) rfl rfl rfl ?_
        | refine LOps.valG (LVal.neqSameB hD rfl rfl rfl rfl rfl) rfl rfl rfl ?_
        | refine LOps.valG (LVal.binOp hD rfl rfl rfl rfl) rfl rfl rfl ?_
        | refine LOps.valG (LVal.unOp rfl rfl rfl) rfl rfl rfl ?_
        | refine LOps.valG (LVal.pick rfl rfl) rfl rfl rfl ?_
        | refine LOps.valG (LVal.extract rfl rfl rfl) rfl rfl rfl ?_
        | refine LOps.valG (LVal.convInt hD rfl rfl rfl rfl rfl) rfl rfl rfl ?_
        | refine LOps.valG (LVal.fieldAddr hD rfl rfl rfl rfl rfl rfl (by decide)) rfl rfl rfl ?_
        | refine LOps.valG (LVal.load hD rfl rfl (by first | assumption | exact box_new _ _ _ | exact box_set _ _ _ | (simp only [box_new, box_set, box_row, box_new_ne, box_set_ne, ne_eq, not_false_eq_true, *] <;> rfl)) rfl rfl) rfl rfl rfl ?_
        | refine LOps.valG (LVal.indexMap hD rfl rfl rfl rfl rfl rfl (by first | assumption | omega) rfl) rfl rfl rfl ?_
        | refine LOps.valG (LVal.loadRo hD rfl rfl rfl rfl) rfl rfl rfl ?_
        | refine LOps.valG (LVal.fieldAddrRo hD rfl rfl rfl rfl rfl rfl (by decide)) rfl rfl rfl ?_
        | refine LOps.valG (LVal.field hD rfl rfl rfl rfl rfl rfl rfl) rfl rfl rfl ?_
        | refine LOps.valG (LVal.buildSlice1 hD rfl rfl rfl rfl rfl rfl rfl rfl rfl rfl) rfl rfl rfl ?_
        | refine LOps.valG (LVal.build hD rfl rfl rfl rfl rfl rfl rfl) rfl rfl rfl ?_
        | refine LOps.valG (LVal.buildSlice hD rfl rfl rfl rfl rfl rfl rfl rfl rfl rfl) rfl rfl rfl ?_
        | refine LOps.valG (LVal.takeMap hD rfl rfl rfl rfl rfl rfl (by first | assumption | omega) rfl (fun _ _ => rfl)) rfl rfl rfl ?_
        | refine LOps.valG (LVal.dropMap hD rfl rfl rfl rfl rfl rfl (by first | assumption | omega) rfl (fun _ _ => rfl)) rfl rfl rfl ?_
        | refine LOps.valG (LVal.cutMap hD rfl rfl rfl rfl rfl rfl rfl (by first | assumption | omega) (by first | assumption | omega) rfl (fun _ _ => rfl)) rfl rfl rfl ?_
        | refine LOps.valG (LVal.move2 rfl rfl) rfl rfl rfl ?_
        | refine LOps.valG (LVal.assign2 rfl rfl) rfl rfl rfl ?_
        | refine LOps.valG (LVal.move (.inl rfl)) rfl rfl rfl ?_
        | refine LOps.valG (LVal.move (.inr rfl)) rfl rfl rfl ?_
        | (refine LOps.do0 (LDo.store hD rfl rfl (by first | assumption | exact box_new _ _ _ | exact box_set _ _ _ | (simp only [box_new, box_set, box_row, box_new_ne, box_set_ne, ne_eq, not_false_eq_true, *] <;> rfl)) rfl rfl rfl rfl) rfl rfl ?_; rintro _ _ ⟨rfl, rfl⟩))
      refine LWp.condF rfl ?_
      repeat (first
        | refine LOps.nil ?_
        | refine andThen_normal ?_
        | refine andThen_exit ?_
        | refine andThen_ret ?_
        | refine inBlock_normal ?_
        | refine inBlock_ret ?_
        | refine inBlock_here ?_
        | refine inBlock_out rfl ?_
        | refine LWp.seq ?_
        | refine LWp.region ?_
        | refine LWp.block ?_
        | refine LWp.exit ?_
        | refine LWp.ret ?_
        | refine LWp.skip ?_
        | refine LOps.out rfl rfl rfl ?_
        | refine LOps.valG (LVal.move1 rfl rfl) rfl rfl rfl ?_
        | refine LOps.valG (LVal.assign1 rfl rfl) rfl rfl rfl ?_
        | refine LOps.valG (LVal.len hD rfl rfl rfl rfl) rfl rfl rfl ?_
        | refine LOps.valG (LVal.lenStr hD rfl rfl rfl rfl) rfl rfl rfl ?_
        | refine LOps.valG (LVal.add64 rfl rfl rfl (by omega)) rfl rfl rfl ?_
        | refine LOps.valG (LVal.sub64 rfl rfl rfl (by omega)) rfl rfl rfl ?_
        | refine LOps.valG (LVal.addU64 rfl rfl rfl (by omega)) rfl rfl rfl ?_
        | refine LOps.valG (LVal.subU64 rfl rfl rfl (by omega)) rfl rfl rfl ?_
        | refine LOps.valG (LVal.mulU64 rfl rfl rfl (by omega)) rfl rfl rfl ?_
        | refine LOps.valG (LVal.remI rfl rfl rfl (by omega)) rfl rfl rfl ?_
        | refine LOps.valG (LVal.quoU64 rfl rfl rfl (by omega)) rfl rfl rfl ?_
        | refine LOps.valG (LVal.quo64 rfl rfl rfl (by omega)) rfl rfl rfl ?_
        | refine LOps.valG (LVal.mul64 rfl rfl rfl (by omega)) rfl rfl rfl ?_
        | refine LOps.valG (LVal.conv64 hD rfl rfl rfl rfl rfl (by omega)) rfl rfl rfl ?_
        | refine LOps.valG (LVal.convU64 hD rfl rfl rfl rfl rfl (by omega)) rfl rfl rfl ?_
        | refine LOps.valG (LVal.neqSame hD rfl rfl rfl) rfl rfl rfl ?_
        | refine LOps.valG (LVal.neqSameB hD rfl rfl rfl rfl rfl) rfl rfl rfl ?_
        | refine LOps.valG (LVal.binOp hD rfl rfl rfl rfl) rfl rfl rfl ?_
        | refine LOps.valG (LVal.unOp rfl rfl rfl) rfl rfl rfl ?_
        | refine LOps.valG (LVal.pick rfl rfl) rfl rfl rfl ?_
        | refine LOps.valG (LVal.extract rfl rfl rfl) rfl rfl rfl ?_
        | refine LOps.valG (LVal.convInt hD rfl rfl rfl rfl rfl) rfl rfl rfl ?_
        | refine LOps.valG (LVal.fieldAddr hD rfl rfl rfl rfl rfl rfl (by decide)) rfl rfl rfl ?_
        | refine LOps.valG (LVal.load hD rfl rfl (by first | assumption | exact box_new _ _ _ | exact box_set _ _ _ | (simp only [box_new, box_set, box_row, box_new_ne, box_set_ne, ne_eq, not_false_eq_true, *] <;> rfl)) rfl rfl) rfl rfl rfl ?_
        | refine LOps.valG (LVal.indexMap hD rfl rfl rfl rfl rfl rfl (by first | assumption | omega) rfl) rfl rfl rfl ?_
        | refine LOps.valG (LVal.loadRo hD rfl rfl rfl rfl) rfl rfl rfl ?_
        | refine LOps.valG (LVal.fieldAddrRo hD rfl rfl rfl rfl rfl rfl (by decide)) rfl rfl rfl ?_
        | refine LOps.valG (LVal.field hD rfl rfl rfl rfl rfl rfl rfl) rfl rfl rfl ?_
        | refine LOps.valG (LVal.buildSlice1 hD rfl rfl rfl rfl rfl rfl rfl rfl rfl rfl) rfl rfl rfl ?_
        | refine LOps.valG (LVal.build hD rfl rfl rfl rfl rfl rfl rfl) rfl rfl rfl ?_
        | refine LOps.valG (LVal.buildSlice hD rfl rfl rfl rfl rfl rfl rfl rfl rfl rfl) rfl rfl rfl ?_
        | refine LOps.valG (LVal.takeMap hD rfl rfl rfl rfl rfl rfl (by first | assumption | omega) rfl (fun _ _ => rfl)) rfl rfl rfl ?_
        | refine LOps.valG (LVal.dropMap hD rfl rfl rfl rfl rfl rfl (by first | assumption | omega) rfl (fun _ _ => rfl)) rfl rfl rfl ?_
        | refine LOps.valG (LVal.cutMap hD rfl rfl rfl rfl rfl rfl rfl (by first | assumption | omega) (by first | assumption | omega) rfl (fun _ _ => rfl)) rfl rfl rfl ?_
        | refine LOps.valG (LVal.move2 rfl rfl) rfl rfl rfl ?_
        | refine LOps.valG (LVal.assign2 rfl rfl) rfl rfl rfl ?_
        | refine LOps.valG (LVal.move (.inl rfl)) rfl rfl rfl ?_
        | refine LOps.valG (LVal.move (.inr rfl)) rfl rfl rfl ?_
        | (refine LOps.do0 (LDo.store hD rfl rfl (by first | assumption | exact box_new _ _ _ | exact box_set _ _ _ | (simp only [box_new, box_set, box_row, box_new_ne, box_set_ne, ne_eq, not_false_eq_true, *] <;> rfl)) rfl rfl rfl rfl) rfl rfl ?_; rintro _ _ ⟨rfl, rfl⟩))
      have hS2 := hB.set m5 m6 m7 m22 [iv ((k + 1 : Nat) : Int)]
      have hd2 := (box_set_ne S [iv ((k + 1 : Nat) : Int)] nd.symm).trans hd
      refine LOps.guard rfl rfl rfl (fun hg2 => ?_) (fun hg2 => ?_)
      · repeat (first
          | refine LOps.nil ?_
          | refine andThen_normal ?_
          | refine andThen_exit ?_
          | refine andThen_ret ?_
          | refine inBlock_normal ?_
          | refine inBlock_ret ?_
          | refine inBlock_here ?_
          | refine inBlock_out rfl ?_
          | refine LWp.seq ?_
          | refine LWp.region ?_
          | refine LWp.block ?_
          | refine LWp.exit ?_
          | refine LWp.ret ?_
          | refine LWp.skip ?_
          | refine LOps.out rfl rfl rfl ?_
          | refine LOps.valG (LVal.move1 rfl rfl) rfl rfl rfl ?_
          | refine LOps.valG (LVal.assign1 rfl rfl) rfl rfl rfl ?_
          | refine LOps.valG (LVal.len hD rfl rfl rfl rfl) rfl rfl rfl ?_
          | refine LOps.valG (LVal.lenStr hD rfl rfl rfl rfl) rfl rfl rfl ?_
          | refine LOps.valG (LVal.add64 rfl rfl rfl (by omega)) rfl rfl rfl ?_
          | refine LOps.valG (LVal.sub64 rfl rfl rfl (by omega)) rfl rfl rfl ?_
          | refine LOps.valG (LVal.addU64 rfl rfl rfl (by omega)) rfl rfl rfl ?_
          | refine LOps.valG (LVal.subU64 rfl rfl rfl (by omega)) rfl rfl rfl ?_
          | refine LOps.valG (LVal.mulU64 rfl rfl rfl (by omega)) rfl rfl rfl ?_
          | refine LOps.valG (LVal.remI rfl rfl rfl (by omega)) rfl rfl rfl ?_
          | refine LOps.valG (LVal.quoU64 rfl rfl rfl (by omega)) rfl rfl rfl ?_
          | refine LOps.valG (LVal.quo64 rfl rfl rfl (by omega)) rfl rfl rfl ?_
          | refine LOps.valG (LVal.mul64 rfl rfl rfl (by omega)) rfl rfl rfl ?_
          | refine LOps.valG (LVal.conv64 hD rfl rfl rfl rfl rfl (by omega)) rfl rfl rfl ?_
          | refine LOps.valG (LVal.convU64 hD rfl rfl rfl rfl rfl (by omega)) rfl rfl rfl ?_
          | refine LOps.valG (LVal.neqSame hD rfl rfl rfl) rfl rfl rfl ?_
          | refine LOps.valG (LVal.neqSameB hD rfl rfl rfl rfl rfl) rfl rfl rfl ?_
          | refine LOps.valG (LVal.binOp hD rfl rfl rfl rfl) rfl rfl rfl ?_
          | refine LOps.valG (LVal.unOp rfl rfl rfl) rfl rfl rfl ?_
          | refine LOps.valG (LVal.pick rfl rfl) rfl rfl rfl ?_
          | refine LOps.valG (LVal.extract rfl rfl rfl) rfl rfl rfl ?_
          | refine LOps.valG (LVal.convInt hD rfl rfl rfl rfl rfl) rfl rfl rfl ?_
          | refine LOps.valG (LVal.fieldAddr hD rfl rfl rfl rfl rfl rfl (by decide)) rfl rfl rfl ?_
          | refine LOps.valG (LVal.load hD rfl rfl (by first | assumption | exact box_new _ _ _ | exact box_set _ _ _ | (simp only [box_new, box_set, box_row, box_new_ne, box_set_ne, ne_eq, not_false_eq_true, *] <;> rfl)) rfl rfl) rfl rfl rfl ?_
          | refine LOps.valG (LVal.indexMap hD rfl rfl rfl rfl rfl rfl (by first | assumption | omega) rfl) rfl rfl rfl ?_
          | refine LOps.valG (LVal.loadRo hD rfl rfl rfl rfl) rfl rfl rfl ?_
          | refine LOps.valG (LVal.fieldAddrRo hD rfl rfl rfl rfl rfl rfl (by decide)) rfl rfl rfl ?_
          | refine LOps.valG (LVal.field hD rfl rfl rfl rfl rfl rfl rfl) rfl rfl rfl ?_
          | refine LOps.valG (LVal.buildSlice1 hD rfl rfl rfl rfl rfl rfl rfl rfl rfl rfl) rfl rfl rfl ?_
          | refine LOps.valG (LVal.build hD rfl rfl rfl rfl rfl rfl rfl) rfl rfl rfl ?_
          | refine LOps.valG (LVal.buildSlice hD rfl rfl rfl rfl rfl rfl rfl rfl rfl rfl) rfl rfl rfl ?_
          | refine LOps.valG (LVal.takeMap hD rfl rfl rfl rfl rfl rfl (by first | assumption | omega) rfl (fun _ _ => rfl)) rfl rfl rfl ?_
          | refine LOps.valG (LVal.dropMap hD rfl rfl rfl rfl rfl rfl (by first | assumption | omega) rfl (fun _ _ => rfl)) rfl rfl rfl ?_
          | refine LOps.valG (LVal.cutMap hD rfl rfl rfl rfl rfl rfl rfl (by first | assumption | omega) (by first | assumption | omega) rfl (fun _ _ => rfl)) rfl rfl rfl ?_
          | refine LOps.valG (LVal.move2 rfl rfl) rfl rfl rfl ?_
          | refine LOps.valG (LVal.assign2 rfl rfl) rfl rfl rfl ?_
          | refine LOps.valG (LVal.move (.inl rfl)) rfl rfl rfl ?_
          | refine LOps.valG (LVal.move (.inr rfl)) rfl rfl rfl ?_
          | (refine LOps.do0 (LDo.store hD rfl rfl (by first | assumption | exact box_new _ _ _ | exact box_set _ _ _ | (simp only [box_new, box_set, box_row, box_new_ne, box_set_ne, ne_eq, not_false_eq_true, *] <;> rfl)) rfl rfl rfl rfl) rfl rfl ?_; rintro _ _ ⟨rfl, rfl⟩))
        refine LWp.cond rfl (fun hg3 => ?_) (fun hg3 => ?_)
        · repeat (first
            | refine LOps.nil ?_
            | refine andThen_normal ?_
            | refine andThen_exit ?_
            | refine andThen_ret ?_
            | refine inBlock_normal ?_
            | refine inBlock_ret ?_
            | refine inBlock_here ?_
            | refine inBlock_out rfl ?_
            | refine LWp.seq ?_
            | refine LWp.region ?_
            | refine LWp.block ?_
            | refine LWp.exit ?_
            | refine LWp.ret ?_
            | refine LWp.skip ?_
            | refine LOps.out rfl rfl rfl ?_
            | refine LOps.valG (LVal.move1 rfl rfl) rfl rfl rfl ?_
            | refine LOps.valG (LVal.assign1 rfl rfl) rfl rfl rfl ?_
            | refine LOps.valG (LVal.len hD rfl rfl rfl rfl) rfl rfl rfl ?_
            | refine LOps.valG (LVal.lenStr hD rfl rfl rfl rfl) rfl rfl rfl ?_
            | refine LOps.valG (LVal.add64 rfl rfl rfl (by omega)) rfl rfl rfl ?_
            | refine LOps.valG (LVal.sub64 rfl rfl rfl (by omega)) rfl rfl rfl ?_
            | refine LOps.valG (LVal.addU64 rfl rfl rfl (by omega)) rfl rfl rfl ?_
            | refine LOps.valG (LVal.subU64 rfl rfl rfl (by omega)) rfl rfl rfl ?_
            | refine LOps.valG (LVal.mulU64 rfl rfl rfl (by omega)) rfl rfl rfl ?_
            | refine LOps.valG (LVal.remI rfl rfl rfl (by omega)) rfl rfl rfl ?_
            | refine LOps.valG (LVal.quoU64 rfl rfl rfl (by omega)) rfl rfl rfl ?_
            | refine LOps.valG (LVal.quo64 rfl rfl rfl (by omega)) rfl rfl rfl ?_
            | refine LOps.valG (LVal.mul64 rfl rfl rfl (by omega)) rfl rfl rfl ?_
            | refine LOps.valG (LVal.conv64 hD rfl rfl rfl rfl rfl (by omega)) rfl rfl rfl ?_
            | refine LOps.valG (LVal.convU64 hD rfl rfl rfl rfl rfl (by omega)) rfl rfl rfl ?_
            | refine LOps.valG (LVal.neqSame hD rfl rfl rfl) rfl rfl rfl ?_
            | refine LOps.valG (LVal.neqSameB hD rfl rfl rfl rfl rfl) rfl rfl rfl ?_
            | refine LOps.valG (LVal.binOp hD rfl rfl rfl rfl) rfl rfl rfl ?_
            | refine LOps.valG (LVal.unOp rfl rfl rfl) rfl rfl rfl ?_
            | refine LOps.valG (LVal.pick rfl rfl) rfl rfl rfl ?_
            | refine LOps.valG (LVal.extract rfl rfl rfl) rfl rfl rfl ?_
            | refine LOps.valG (LVal.convInt hD rfl rfl rfl rfl rfl) rfl rfl rfl ?_
            | refine LOps.valG (LVal.fieldAddr hD rfl rfl rfl rfl rfl rfl (by decide)) rfl rfl rfl ?_
            | refine LOps.valG (LVal.load hD rfl rfl (by first | assumption | exact box_new _ _ _ | exact box_set _ _ _ | (simp only [box_new, box_set, box_row, box_new_ne, box_set_ne, ne_eq, not_false_eq_true, *] <;> rfl)) rfl rfl) rfl rfl rfl ?_
            | refine LOps.valG (LVal.indexMap hD rfl rfl rfl rfl rfl rfl (by first | assumption | omega) rfl) rfl rfl rfl ?_
            | refine LOps.valG (LVal.loadRo hD rfl rfl rfl rfl) rfl rfl rfl ?_
            | refine LOps.valG (LVal.fieldAddrRo hD rfl rfl rfl rfl rfl rfl (by decide)) rfl rfl rfl ?_
            | refine LOps.valG (LVal.field hD rfl rfl rfl rfl rfl rfl rfl) rfl rfl rfl ?_
            | refine LOps.valG (LVal.buildSlice1 hD rfl rfl rfl rfl rfl rfl rfl rfl rfl rfl) rfl rfl rfl ?_
            | refine LOps.valG (LVal.build hD rfl rfl rfl rfl rfl rfl rfl) rfl rfl rfl ?_
            | refine LOps.valG (LVal.buildSlice hD rfl rfl rfl rfl rfl rfl rfl rfl rfl rfl) rfl rfl rfl ?_
            | refine LOps.valG (LVal.takeMap hD rfl rfl rfl rfl rfl rfl (by first | assumption | omega) rfl (fun _ _ => rfl)) rfl rfl rfl ?_
            | refine LOps.valG (LVal.dropMap hD rfl rfl rfl rfl rfl rfl (by first | assumption | omega) rfl (fun _ _ => rfl)) rfl rfl rfl ?_
            | refine LOps.valG (LVal.cutMap hD rfl rfl rfl rfl rfl rfl rfl (by first | assumption | omega) (by first | assumption | omega) rfl (fun _ _ => rfl)) rfl rfl rfl ?_
            | refine LOps.valG (LVal.move2 rfl rfl) rfl rfl rfl ?_
            | refine LOps.valG (LVal.assign2 rfl rfl) rfl rfl rfl ?_
            | refine LOps.valG (LVal.move (.inl rfl)) rfl rfl rfl ?_
            | refine LOps.valG (LVal.move (.inr rfl)) rfl rfl rfl ?_
            | (refine LOps.do0 (LDo.store hD rfl rfl (by first | assumption | exact box_new _ _ _ | exact box_set _ _ _ | (simp only [box_new, box_set, box_row, box_new_ne, box_set_ne, ne_eq, not_false_eq_true, *] <;> rfl)) rfl rfl rfl rfl) rfl rfl ?_; rintro _ _ ⟨rfl, rfl⟩))
          exact ⟨ho, rfl, by have := of_decide_eq_true hg2; omega, by have := of_decide_eq_true hg3; omega, hS2, box_set _ _ _⟩
        · repeat (first
            | refine LOps.nil ?_
            | refine andThen_normal ?_
            | refine andThen_exit ?_
            | refine andThen_ret ?_
            | refine inBlock_normal ?_
            | refine inBlock_ret ?_
            | refine inBlock_here ?_
            | refine inBlock_out rfl ?_
            | refine LWp.seq ?_
            | refine LWp.region ?_
            | refine LWp.block ?_
            | refine LWp.exit ?_
            | refine LWp.ret ?_
            | refine LWp.skip ?_
            | refine LOps.out rfl rfl rfl ?_
            | refine LOps.valG (LVal.move1 rfl rfl) rfl rfl rfl ?_
            | refine LOps.valG (LVal.assign1 rfl rfl) rfl rfl rfl ?_
            | refine LOps.valG (LVal.len hD rfl rfl rfl rfl) rfl rfl rfl ?_
            | refine LOps.valG (LVal.lenStr hD rfl rfl rfl rfl) rfl rfl rfl ?_
            | refine LOps.valG (LVal.add64 rfl rfl rfl (by omega)) rfl rfl rfl ?_
            | refine LOps.valG (LVal.sub64 rfl rfl rfl (by omega)) rfl rfl rfl ?_
            | refine LOps.valG (LVal.addU64 rfl rfl rfl (by omega)) rfl rfl rfl ?_
            | refine LOps.valG (LVal.subU64 rfl rfl rfl (by omega)) rfl rfl rfl ?_
            | refine LOps.valG (LVal.mulU64 rfl rfl rfl (by omega)) rfl rfl rfl ?_
            | refine LOps.valG (LVal.remI rfl rfl rfl (by omega)) rfl rfl rfl ?_
            | refine LOps.valG (LVal.quoU64 rfl rfl rfl (by omega)) rfl rfl rfl ?_
            | refine LOps.valG (LVal.quo64 rfl rfl rfl (by omega)) rfl rfl rfl ?_
            | refine LOps.valG (LVal.mul64 rfl rfl rfl (by omega)) rfl rfl rfl ?_
            | refine LOps.valG (LVal.conv64 hD rfl rfl rfl rfl rfl (by omega)) rfl rfl rfl ?_
            | refine LOps.valG (LVal.convU64 hD rfl rfl rfl rfl rfl (by omega)) rfl rfl rfl ?_
            | refine LOps.valG (LVal.neqSame hD rfl rfl rfl) rfl rfl rfl ?_
            | refine LOps.valG (LVal.neqSameB hD rfl rfl rfl rfl rfl) rfl rfl rfl ?_
            | refine LOps.valG (LVal.binOp hD rfl rfl rfl rfl) rfl rfl rfl ?_
            | refine LOps.valG (LVal.unOp rfl rfl rfl) rfl rfl rfl ?_
            | refine LOps.valG (LVal.pick rfl rfl) rfl rfl rfl ?_
            | refine LOps.valG (LVal.extract rfl rfl rfl) rfl rfl rfl ?_
            | refine LOps.valG (LVal.convInt hD rfl rfl rfl rfl rfl) rfl rfl rfl ?_
            | refine LOps.valG (LVal.fieldAddr hD rfl rfl rfl rfl rfl rfl (by decide)) rfl rfl rfl ?_
            | refine LOps.valG (LVal.load hD rfl rfl (by first | assumption | exact box_new _ _ _ | exact box_set _ _ _ | (simp only [box_new, box_set, box_row, box_new_ne, box_set_ne, ne_eq, not_false_eq_true, *] <;> rfl)) rfl rfl) rfl rfl rfl ?_
            | refine LOps.valG (LVal.indexMap hD rfl rfl rfl rfl rfl rfl (by first | assumption | omega) rfl) rfl rfl rfl ?_
            | refine LOps.valG (LVal.loadRo hD rfl rfl rfl rfl) rfl rfl rfl ?_
            | refine LOps.valG (LVal.fieldAddrRo hD rfl rfl rfl rfl rfl rfl (by decide)) rfl rfl rfl ?_
            | refine LOps.valG (LVal.field hD rfl rfl rfl rfl rfl rfl rfl) rfl rfl rfl ?_
            | refine LOps.valG (LVal.buildSlice1 hD rfl rfl rfl rfl rfl rfl rfl rfl rfl rfl) rfl rfl rfl ?_
            | refine LOps.valG (LVal.build hD rfl rfl rfl rfl rfl rfl rfl) rfl rfl rfl ?_
            | refine LOps.valG (LVal.buildSlice hD rfl rfl rfl rfl rfl rfl rfl rfl rfl rfl) rfl rfl rfl ?_
            | refine LOps.valG (LVal.takeMap hD rfl rfl rfl rfl rfl rfl (by first | assumption | omega) rfl (fun _ _ => rfl)) rfl rfl rfl ?_
            | refine LOps.valG (LVal.dropMap hD rfl rfl rfl rfl rfl rfl (by first | assumption | omega) rfl (fun _ _ => rfl)) rfl rfl rfl ?_
            | refine LOps.valG (LVal.cutMap hD rfl rfl rfl rfl rfl rfl rfl (by first | assumption | omega) (by first | assumption | omega) rfl (fun _ _ => rfl)) rfl rfl rfl ?_
            | refine LOps.valG (LVal.move2 rfl rfl) rfl rfl rfl ?_
            | refine LOps.valG (LVal.assign2 rfl rfl) rfl rfl rfl ?_
            | refine LOps.valG (LVal.move (.inl rfl)) rfl rfl rfl ?_
            | refine LOps.valG (LVal.move (.inr rfl)) rfl rfl rfl ?_
            | (refine LOps.do0 (LDo.store hD rfl rfl (by first | assumption | exact box_new _ _ _ | exact box_set _ _ _ | (simp only [box_new, box_set, box_row, box_new_ne, box_set_ne, ne_eq, not_false_eq_true, *] <;> rfl)) rfl rfl rfl rfl) rfl rfl ?_; rintro _ _ ⟨rfl, rfl⟩))
          exact ⟨ho, hS2, box_set _ _ _, hd2⟩
      · repeat (first
          | refine LOps.nil ?_
          | refine andThen_normal ?_
          | refine andThen_exit ?_
          | refine andThen_ret ?_
          | refine inBlock_normal ?_
          | refine inBlock_ret ?_
          | refine inBlock_here ?_
          | refine inBlock_out rfl ?_
          | refine LWp.seq ?_
          | refine LWp.region ?_
          | refine LWp.block ?_
          | refine LWp.exit ?_
          | refine LWp.ret ?_
          | refine LWp.skip ?_
          | refine LOps.out rfl rfl rfl ?_
          | refine LOps.valG (LVal.move1 rfl rfl) rfl rfl rfl ?_
          | refine LOps.valG (LVal.assign1 rfl rfl) rfl rfl rfl ?_
          | refine LOps.valG (LVal.len hD rfl rfl rfl rfl) rfl rfl rfl ?_
          | refine LOps.valG (LVal.lenStr hD rfl rfl rfl rfl) rfl rfl rfl ?_
          | refine LOps.valG (LVal.add64 rfl rfl rfl (by omega)) rfl rfl rfl ?_
          | refine LOps.valG (LVal.sub64 rfl rfl rfl (by omega)) rfl rfl rfl ?_
          | refine LOps.valG (LVal.addU64 rfl rfl rfl (by omega)) rfl rfl rfl ?_
          | refine LOps.valG (LVal.subU64 rfl rfl rfl (by omega)) rfl rfl rfl ?_
          | refine LOps.valG (LVal.mulU64 rfl rfl rfl (by omega)) rfl rfl rfl ?_
          | refine LOps.valG (LVal.remI rfl rfl rfl (by omega)) rfl rfl rfl ?_
          | refine LOps.valG (LVal.quoU64 rfl rfl rfl (by omega)) rfl rfl rfl ?_
          | refine LOps.valG (LVal.quo64 rfl rfl rfl (by omega)) rfl rfl rfl ?_
          | refine LOps.valG (LVal.mul64 rfl rfl rfl (by omega)) rfl rfl rfl ?_
          | refine LOps.valG (LVal.conv64 hD rfl rfl rfl rfl rfl (by omega)) rfl rfl rfl ?_
          | refine LOps.valG (LVal.convU64 hD rfl rfl rfl rfl rfl (by omega)) rfl rfl rfl ?_
          | refine LOps.valG (LVal.neqSame hD rfl rfl rfl) rfl rfl rfl ?_
          | refine LOps.valG (LVal.neqSameB hD rfl rfl rfl rfl rfl) rfl rfl rfl ?_
          | refine LOps.valG (LVal.binOp hD rfl rfl rfl rfl) rfl rfl rfl ?_
          | refine LOps.valG (LVal.unOp rfl rfl rfl) rfl rfl rfl ?_
          | refine LOps.valG (LVal.pick rfl rfl) rfl rfl rfl ?_
          | refine LOps.valG (LVal.extract rfl rfl rfl) rfl rfl rfl ?_
          | refine LOps.valG (LVal.convInt hD rfl rfl rfl rfl rfl) rfl rfl rfl ?_
          | refine LOps.valG (LVal.fieldAddr hD rfl rfl rfl rfl rfl rfl (by decide)) rfl rfl rfl ?_
          | refine LOps.valG (LVal.load hD rfl rfl (by first | assumption | exact box_new _ _ _ | exact box_set _ _ _ | (simp only [box_new, box_set, box_row, box_new_ne, box_set_ne, ne_eq, not_false_eq_true, *] <;> rfl)) rfl rfl) rfl rfl rfl ?_
          | refine LOps.valG (LVal.indexMap hD rfl rfl rfl rfl rfl rfl (by first | assumption | omega) rfl) rfl rfl rfl ?_
          | refine LOps.valG (LVal.loadRo hD rfl rfl rfl rfl) rfl rfl rfl ?_
          | refine LOps.valG (LVal.fieldAddrRo hD rfl rfl rfl rfl rfl rfl (by decide)) rfl rfl rfl ?_
          | refine LOps.valG (LVal.field hD rfl rfl rfl rfl rfl rfl rfl) rfl rfl rfl ?_
          | refine LOps.valG (LVal.buildSlice1 hD rfl rfl rfl rfl rfl rfl rfl rfl rfl rfl) rfl rfl rfl ?_
          | refine LOps.valG (LVal.build hD rfl rfl rfl rfl rfl rfl rfl) rfl rfl rfl ?_
          | refine LOps.valG (LVal.buildSlice hD rfl rfl rfl rfl rfl rfl rfl rfl rfl rfl) rfl rfl rfl ?_
          | refine LOps.valG (LVal.takeMap hD rfl rfl rfl rfl rfl rfl (by first | assumption | omega) rfl (fun _ _ => rfl)) rfl rfl rfl ?_
          | refine LOps.valG (LVal.dropMap hD rfl rfl rfl rfl rfl rfl (by first | assumption | omega) rfl (fun _ _ => rfl)) rfl rfl rfl ?_
          | refine LOps.valG (LVal.cutMap hD rfl rfl rfl rfl rfl rfl rfl (by first | assumption | omega) (by first | assumption | omega) rfl (fun _ _ => rfl)) rfl rfl rfl ?_
          | refine LOps.valG (LVal.move2 rfl rfl) rfl rfl rfl ?_
          | refine LOps.valG (LVal.assign2 rfl rfl) rfl rfl rfl ?_
          | refine LOps.valG (LVal.move (.inl rfl)) rfl rfl rfl ?_
          | refine LOps.valG (LVal.move (.inr rfl)) rfl rfl rfl ?_
          | (refine LOps.do0 (LDo.store hD rfl rfl (by first | assumption | exact box_new _ _ _ | exact box_set _ _ _ | (simp only [box_new, box_set, box_row, box_new_ne, box_set_ne, ne_eq, not_false_eq_true, *] <;> rfl)) rfl rfl rfl rfl) rfl rfl ?_; rintro _ _ ⟨rfl, rfl⟩))
        refine LWp.condF rfl ?_
        repeat (first
          | refine LOps.nil ?_
          | refine andThen_normal ?_
          | refine andThen_exit ?_
          | refine andThen_ret ?_
          | refine inBlock_normal ?_
          | refine inBlock_ret ?_
          | refine inBlock_here ?_
          | refine inBlock_out rfl ?_
          | refine LWp.seq ?_
          | refine LWp.region ?_
          | refine LWp.block ?_
          | refine LWp.exit ?_
          | refine LWp.ret ?_
          | refine LWp.skip ?_
          | refine LOps.out rfl rfl rfl ?_
          | refine LOps.valG (LVal.move1 rfl rfl) rfl rfl rfl ?_
          | refine LOps.valG (LVal.assign1 rfl rfl) rfl rfl rfl ?_
          | refine LOps.valG (LVal.len hD rfl rfl rfl rfl) rfl rfl rfl ?_
          | refine LOps.valG (LVal.lenStr hD rfl rfl rfl rfl) rfl rfl rfl ?_
          | refine LOps.valG (LVal.add64 rfl rfl rfl (by omega)) rfl rfl rfl ?_
          | refine LOps.valG (LVal.sub64 rfl rfl rfl (by omega)) rfl rfl rfl ?_
          | refine LOps.valG (LVal.addU64 rfl rfl rfl (by omega)) rfl rfl rfl ?_
          | refine LOps.valG (LVal.subU64 rfl rfl rfl (by omega)) rfl rfl rfl ?_
          | refine LOps.valG (LVal.mulU64 rfl rfl rfl (by omega)) rfl rfl rfl ?_
          | refine LOps.valG (LVal.remI rfl rfl rfl (by omega)) rfl rfl rfl ?_
          | refine LOps.valG (LVal.quoU64 rfl rfl rfl (by omega)) rfl rfl rfl ?_
          | refine LOps.valG (LVal.quo64 rfl rfl rfl (by omega)) rfl rfl rfl ?_
          | refine LOps.valG (LVal.mul64 rfl rfl rfl (by omega)) rfl rfl rfl ?_
          | refine LOps.valG (LVal.conv64 hD rfl rfl rfl rfl rfl (by omega)) rfl rfl rfl ?_
          | refine LOps.valG (LVal.convU64 hD rfl rfl rfl rfl rfl (by omega)) rfl rfl rfl ?_
          | refine LOps.valG (LVal.neqSame hD rfl rfl rfl) rfl rfl rfl ?_
          | refine LOps.valG (LVal.neqSameB hD rfl rfl rfl rfl rfl) rfl rfl rfl ?_
          | refine LOps.valG (LVal.binOp hD rfl rfl rfl rfl) rfl rfl rfl ?_
          | refine LOps.valG (LVal.unOp rfl rfl rfl) rfl rfl rfl ?_
          | refine LOps.valG (LVal.pick rfl rfl) rfl rfl rfl ?_
          | refine LOps.valG (LVal.extract rfl rfl rfl) rfl rfl rfl ?_
          | refine LOps.valG (LVal.convInt hD rfl rfl rfl rfl rfl) rfl rfl rfl ?_
          | refine LOps.valG (LVal.fieldAddr hD rfl rfl rfl rfl rfl rfl (by decide)) rfl rfl rfl ?_
          | refine LOps.valG (LVal.load hD rfl rfl (by first | assumption | exact box_new _ _ _ | exact box_set _ _ _ | (simp only [box_new, box_set, box_row, box_new_ne, box_set_ne, ne_eq, not_false_eq_true, *] <;> rfl)) rfl rfl) rfl rfl rfl ?_
          | refine LOps.valG (LVal.indexMap hD rfl rfl rfl rfl rfl rfl (by first | assumption | omega) rfl) rfl rfl rfl ?_
          | refine LOps.valG (LVal.loadRo hD rfl rfl rfl rfl) rfl rfl rfl ?_
          | refine LOps.valG (LVal.fieldAddrRo hD rfl rfl rfl rfl rfl rfl (by decide)) rfl rfl rfl ?_
          | refine LOps.valG (LVal.field hD rfl rfl rfl rfl rfl rfl rfl) rfl rfl rfl ?_
          | refine LOps.valG (LVal.buildSlice1 hD rfl rfl rfl rfl rfl rfl rfl rfl rfl rfl) rfl rfl rfl ?_
          | refine LOps.valG (LVal.build hD rfl rfl rfl rfl rfl rfl rfl) rfl rfl rfl ?_
          | refine LOps.valG (LVal.buildSlice hD rfl rfl rfl rfl rfl rfl rfl rfl rfl rfl) rfl rfl rfl ?_
          | refine LOps.valG (LVal.takeMap hD rfl rfl rfl rfl rfl rfl (by first | assumption | omega) rfl (fun _ _ => rfl)) rfl rfl rfl ?_
          | refine LOps.valG (LVal.dropMap hD rfl rfl rfl rfl rfl rfl (by first | assumption | omega) rfl (fun _ _ => rfl)) rfl rfl rfl ?_
          | refine LOps.valG (LVal.cutMap hD rfl rfl rfl rfl rfl rfl rfl (by first | assumption | omega) (by first | assumption | omega) rfl (fun _ _ => rfl)) rfl rfl rfl ?_
          | refine LOps.valG (LVal.move2 rfl rfl) rfl rfl rfl ?_
          | refine LOps.valG (LVal.assign2 rfl rfl) rfl rfl rfl ?_
          | refine LOps.valG (LVal.move (.inl rfl)) rfl rfl rfl ?_
          | refine LOps.valG (LVal.move (.inr rfl)) rfl rfl rfl ?_
          | (refine LOps.do0 (LDo.store hD rfl rfl (by first | assumption | exact box_new _ _ _ | exact box_set _ _ _ | (simp only [box_new, box_set, box_row, box_new_ne, box_set_ne, ne_eq, not_false_eq_true, *] <;> rfl)) rfl rfl rfl rfl) rfl rfl ?_; rintro _ _ ⟨rfl, rfl⟩))
        exact ⟨ho, hS2, box_set _ _ _, hd2⟩
    · clear hB z hd S
      rintro S ⟨hB, z, hd⟩
      have e : (yields p).length = (iList U).length := by rw [iList_len, hUl]; simp [yields]
      rw [e] at z
      have k5 := hB.h5
      have k7 := hB.h7
      have k22 := hB.h22
      repeat (first
        | refine LOps.nil ?_
        | refine andThen_normal ?_
        | refine andThen_exit ?_
        | refine andThen_ret ?_
        | refine inBlock_normal ?_
        | refine inBlock_ret ?_
        | refine inBlock_here ?_
        | refine inBlock_out rfl ?_
        | refine LWp.seq ?_
        | refine LWp.region ?_
        | refine LWp.block ?_
        | refine LWp.exit ?_
        | refine LWp.ret ?_
        | refine LWp.skip ?_
        | refine LOps.out rfl rfl rfl ?_
        | refine LOps.valG (LVal.move1 rfl rfl) rfl rfl rfl ?_
        | refine LOps.valG (LVal.assign1 rfl rfl) rfl rfl rfl ?_
        | refine LOps.valG (LVal.len hD rfl rfl rfl rfl) rfl rfl rfl ?_
        | refine LOps.valG (LVal.lenStr hD rfl rfl rfl rfl) rfl rfl rfl ?_
        | refine LOps.valG (LVal.add64 rfl rfl rfl (by omega)) rfl rfl rfl ?_
        | refine LOps.valG (LVal.sub64 rfl rfl rfl (by omega)) rfl rfl rfl ?_
        | refine LOps.valG (LVal.addU64 rfl rfl rfl (by omega)) rfl rfl rfl ?_
        | refine LOps.valG (LVal.subU64 rfl rfl rfl (by omega)) rfl rfl rfl ?_
        | refine LOps.valG (LVal.mulU64 rfl rfl rfl (by omega)) rfl rfl rfl ?_
        | refine LOps.valG (LVal.remI rfl rfl rfl (by omega)) rfl rfl rfl ?_
        | refine LOps.valG (LVal.quoU64 rfl rfl rfl (by omega)) rfl rfl rfl ?_
        | refine LOps.valG (LVal.quo64 rfl rfl rfl (by omega)) rfl rfl rfl ?_
        | refine LOps.valG (LVal.mul64 rfl rfl rfl (by omega)) rfl rfl rfl ?_
        | refine LOps.valG (LVal.conv64 hD rfl rfl rfl rfl rfl (by omega)) rfl rfl rfl ?_
        | refine LOps.valG (LVal.convU64 hD rfl rfl rfl rfl rfl (by omega)) rfl rfl rfl ?_
        | refine LOps.valG (LVal.neqSame hD rfl rfl rfl) rfl rfl rfl ?_
        | refine LOps.valG (LVal.neqSameB hD rfl rfl rfl rfl rfl) rfl rfl rfl ?_
        | refine LOps.valG (LVal.binOp hD rfl rfl rfl rfl) rfl rfl rfl ?_
        | refine LOps.valG (LVal.unOp rfl rfl rfl) rfl rfl rfl ?_
        | refine LOps.valG (LVal.pick rfl rfl) rfl rfl rfl ?_
        | refine LOps.valG (LVal.extract rfl rfl rfl) rfl rfl rfl ?_
        | refine LOps.valG (LVal.convInt hD rfl rfl rfl rfl rfl) rfl rfl rfl ?_
        | refine LOps.valG (LVal.fieldAddr hD rfl rfl rfl rfl rfl rfl (by decide)) rfl rfl rfl ?_
        | refine LOps.valG (LVal.load hD rfl rfl (by first | assumption | exact box_new _ _ _ | exact box_set _ _ _ | (simp only [box_new, box_set, box_row, box_new_ne, box_set_ne, ne_eq, not_false_eq_true, *] <;> rfl)) rfl rfl) rfl rfl rfl ?_
        | refine LOps.valG (LVal.indexMap hD rfl rfl rfl rfl rfl rfl (by first | assumption | omega) rfl) rfl rfl rfl ?_
        | refine LOps.valG (LVal.loadRo hD rfl rfl rfl rfl) rfl rfl rfl ?_
        | refine LOps.valG (LVal.fieldAddrRo hD rfl rfl rfl rfl rfl rfl (by decide)) rfl rfl rfl ?_
        | refine LOps.valG (LVal.field hD rfl rfl rfl rfl rfl rfl rfl) rfl rfl rfl ?_
        | refine LOps.valG (LVal.buildSlice1 hD rfl rfl rfl rfl rfl rfl rfl rfl rfl rfl) rfl rfl rfl ?_
        | refine LOps.valG (LVal.build hD rfl rfl rfl rfl rfl rfl rfl) rfl rfl rfl ?_
        | refine LOps.valG (LVal.buildSlice hD rfl rfl rfl rfl rfl rfl rfl rfl rfl rfl) rfl rfl rfl ?_
        | refine LOps.valG (LVal.takeMap hD rfl rfl rfl rfl rfl rfl (by first | assumption | omega) rfl (fun _ _ => rfl)) rfl rfl rfl ?_
        | refine LOps.valG (LVal.dropMap hD rfl rfl rfl rfl rfl rfl (by first | assumption | omega) rfl (fun _ _ => rfl)) rfl rfl rfl ?_
        | refine LOps.valG (LVal.cutMap hD rfl rfl rfl rfl rfl rfl rfl (by first | assumption | omega) (by first | assumption | omega) rfl (fun _ _ => rfl)) rfl rfl rfl ?_
        | refine LOps.valG (LVal.move2 rfl rfl) rfl rfl rfl ?_
        | refine LOps.valG (LVal.assign2 rfl rfl) rfl rfl rfl ?_
        | refine LOps.valG (LVal.move (.inl rfl)) rfl rfl rfl ?_
        | refine LOps.valG (LVal.move (.inr rfl)) rfl rfl rfl ?_
        | (refine LOps.do0 (LDo.store hD rfl rfl (by first | assumption | exact box_new _ _ _ | exact box_set _ _ _ | (simp only [box_new, box_set, box_row, box_new_ne, box_set_ne, ne_eq, not_false_eq_true, *] <;> rfl)) rfl rfl rfl rfl) rfl rfl ?_; rintro _ _ ⟨rfl, rfl⟩))
      refine LWp.condF rfl ?_
      repeat (first
        | refine LOps.nil ?_
        | refine andThen_normal ?_
        | refine andThen_exit ?_
        | refine andThen_ret ?_
        | refine inBlock_normal ?_
        | refine inBlock_ret ?_
        | refine inBlock_here ?_
        | refine inBlock_out rfl ?_
        | refine LWp.seq ?_
        | refine LWp.region ?_
        | refine LWp.block ?_
        | refine LWp.exit ?_
        | refine LWp.ret ?_
        | refine LWp.skip ?_
        | refine LOps.out rfl rfl rfl ?_
        | refine LOps.valG (LVal.move1 rfl rfl) rfl rfl rfl ?_
        | refine LOps.valG (LVal.assign1 rfl rfl) rfl rfl rfl ?_
        | refine LOps.valG (LVal.len hD rfl rfl rfl rfl) rfl rfl rfl ?_
        | refine LOps.valG (LVal.lenStr hD rfl rfl rfl rfl) rfl rfl rfl ?_
        | refine LOps.valG (LVal.add64 rfl rfl rfl (by omega)) rfl rfl rfl ?_
        | refine LOps.valG (LVal.sub64 rfl rfl rfl (by omega)) rfl rfl rfl ?_
        | refine LOps.valG (LVal.addU64 rfl rfl rfl (by omega)) rfl rfl rfl ?_
        | refine LOps.valG (LVal.subU64 rfl rfl rfl (by omega)) rfl rfl rfl ?_
        | refine LOps.valG (LVal.mulU64 rfl rfl rfl (by omega)) rfl rfl rfl ?_
        | refine LOps.valG (LVal.remI rfl rfl rfl (by omega)) rfl rfl rfl ?_
        | refine LOps.valG (LVal.quoU64 rfl rfl rfl (by omega)) rfl rfl rfl ?_
        | refine LOps.valG (LVal.quo64 rfl rfl rfl (by omega)) rfl rfl rfl ?_
        | refine LOps.valG (LVal.mul64 rfl rfl rfl (by omega)) rfl rfl rfl ?_
        | refine LOps.valG (LVal.conv64 hD rfl rfl rfl rfl rfl (by omega)) rfl rfl rfl ?_
        | refine LOps.valG (LVal.convU64 hD rfl rfl rfl rfl rfl (by omega)) rfl rfl rfl ?_
        | refine LOps.valG (LVal.neqSame hD rfl rfl rfl) rfl rfl rfl ?_
        | refine LOps.valG (LVal.neqSameB hD rfl rfl rfl rfl rfl) rfl rfl rfl ?_
        | refine LOps.valG (LVal.binOp hD rfl rfl rfl rfl) rfl rfl rfl ?_
        | refine LOps.valG (LVal.unOp rfl rfl rfl) rfl rfl rfl ?_
        | refine LOps.valG (LVal.pick rfl rfl) rfl rfl rfl ?_
        | refine LOps.valG (LVal.extract rfl rfl rfl) rfl rfl rfl ?_
        | refine LOps.valG (LVal.convInt hD rfl rfl rfl rfl rfl) rfl rfl rfl ?_
        | refine LOps.valG (LVal.fieldAddr hD rfl rfl rfl rfl rfl rfl (by decide)) rfl rfl rfl ?_
        | refine LOps.valG (LVal.load hD rfl rfl (by first | assumption | exact box_new _ _ _ | exact box_set _ _ _ | (simp only [box_new, box_set, box_row, box_new_ne, box_set_ne, ne_eq, not_false_eq_true, *] <;> rfl)) rfl rfl) rfl rfl rfl ?_
        | refine LOps.valG (LVal.indexMap hD rfl rfl rfl rfl rfl rfl (by first | assumption | omega) rfl) rfl rfl rfl ?_
        | refine LOps.valG (LVal.loadRo hD rfl rfl rfl rfl) rfl rfl rfl ?_
        | refine LOps.valG (LVal.fieldAddrRo hD rfl rfl rfl rfl rfl rfl (by decide)) rfl rfl rfl ?_
        | refine LOps.valG (LVal.field hD rfl rfl rfl rfl rfl rfl rfl) rfl rfl rfl ?_
        | refine LOps.valG (LVal.buildSlice1 hD rfl rfl rfl rfl rfl rfl rfl rfl rfl rfl) rfl rfl rfl ?_
        | refine LOps.valG (LVal.build hD rfl rfl rfl rfl rfl rfl rfl) rfl rfl rfl ?_
        | refine LOps.valG (LVal.buildSlice hD rfl rfl rfl rfl rfl rfl rfl rfl rfl rfl) rfl rfl rfl ?_
        | refine LOps.valG (LVal.takeMap hD rfl rfl rfl rfl rfl rfl (by first | assumption | omega) rfl (fun _ _ => rfl)) rfl rfl rfl ?_
        | refine LOps.valG (LVal.dropMap hD rfl rfl rfl rfl rfl rfl (by first | assumption | omega) rfl (fun _ _ => rfl)) rfl rfl rfl ?_
        | refine LOps.valG (LVal.cutMap hD rfl rfl rfl rfl rfl rfl rfl (by first | assumption | omega) (by first | assumption | omega) rfl (fun _ _ => rfl)) rfl rfl rfl ?_
        | refine LOps.valG (LVal.move2 rfl rfl) rfl rfl rfl ?_
        | refine LOps.valG (LVal.assign2 rfl rfl) rfl rfl rfl ?_
        | refine LOps.valG (LVal.move (.inl rfl)) rfl rfl rfl ?_
        | refine LOps.valG (LVal.move (.inr rfl)) rfl rfl rfl ?_
        | (refine LOps.do0 (LDo.store hD rfl rfl (by first | assumption | exact box_new _ _ _ | exact box_set _ _ _ | (simp only [box_new, box_set, box_row, box_new_ne, box_set_ne, ne_eq, not_false_eq_true, *] <;> rfl)) rfl rfl rfl rfl) rfl rfl ?_; rintro _ _ ⟨rfl, rfl⟩))
      refine LOps.do (LDo.alloc hD rfl rfl rfl) rfl rfl rfl ?_
      rintro _ _ ⟨b9, hb9, rfl, rfl⟩
      have q5 : b5 ≠ b9 := fresh_ne hb9 hB.h5
      have q6 : b6 ≠ b9 := fresh_ne hb9 hB.h6
      have q7 : b7 ≠ b9 := fresh_ne hb9 hB.h7
      have p5 := (box_new_ne _ (ti3.zero.cells.toList.map constLV) q5).trans hB.h5
      have p6 := (box_new_ne _ (ti3.zero.cells.toList.map constLV) q6).trans hB.h6
      have p7 := (box_new_ne _ (ti3.zero.cells.toList.map constLV) q7).trans hB.h7
      repeat (first
        | refine LOps.nil ?_
        | refine andThen_normal ?_
        | refine andThen_exit ?_
        | refine andThen_ret ?_
        | refine inBlock_normal ?_
        | refine inBlock_ret ?_
        | refine inBlock_here ?_
        | refine inBlock_out rfl ?_
        | refine LWp.seq ?_
        | refine LWp.region ?_
        | refine LWp.block ?_
        | refine LWp.exit ?_
        | refine LWp.ret ?_
        | refine LWp.skip ?_
        | refine LOps.out rfl rfl rfl ?_
        | refine LOps.valG (LVal.move1 rfl rfl) rfl rfl rfl ?_
        | refine LOps.valG (LVal.assign1 rfl rfl) rfl rfl rfl ?_
        | refine LOps.valG (LVal.len hD rfl rfl rfl rfl) rfl rfl rfl ?_
        | refine LOps.valG (LVal.lenStr hD rfl rfl rfl rfl) rfl rfl rfl ?_
        | refine LOps.valG (LVal.add64 rfl rfl rfl (by omega)) rfl rfl rfl ?_
        | refine LOps.valG (LVal.sub64 rfl rfl rfl (by omega)) rfl rfl rfl ?_
        | refine LOps.valG (LVal.addU64 rfl rfl rfl (by omega)) rfl rfl rfl ?_
        | refine LOps.valG (LVal.subU64 rfl rfl rfl (by omega)) rfl rfl rfl ?_
        | refine LOps.valG (LVal.mulU64 rfl rfl rfl (by omega)) rfl rfl rfl ?_
        | refine LOps.valG (LVal.remI rfl rfl rfl (by omega)) rfl rfl rfl ?_
        | refine LOps.valG (LVal.quoU64 rfl rfl rfl (by omega)) rfl rfl rfl ?_
        | refine LOps.valG (LVal.quo64 rfl rfl rfl (by omega)) rfl rfl rfl ?_
        | refine LOps.valG (LVal.mul64 rfl rfl rfl (by omega)) rfl rfl rfl ?_
        | refine LOps.valG (LVal.conv64 hD rfl rfl rfl rfl rfl (by omega)) rfl rfl rfl ?_
        | refine LOps.valG (LVal.convU64 hD rfl rfl rfl rfl rfl (by omega)) rfl rfl rfl ?_
        | refine LOps.valG (LVal.neqSame hD rfl rfl rfl) rfl rfl rfl ?_
        | refine LOps.valG (LVal.neqSameB hD rfl rfl rfl rfl rfl) rfl rfl rfl ?_
        | refine LOps.valG (LVal.binOp hD rfl rfl rfl rfl) rfl rfl rfl ?_
        | refine LOps.valG (LVal.unOp rfl rfl rfl) rfl rfl rfl ?_
        | refine LOps.valG (LVal.pick rfl rfl) rfl rfl rfl ?_
        | refine LOps.valG (LVal.extract rfl rfl rfl) rfl rfl rfl ?_
        | refine LOps.valG (LVal.convInt hD rfl rfl rfl rfl rfl) rfl rfl rfl ?_
        | refine LOps.valG (LVal.fieldAddr hD rfl rfl rfl rfl rfl rfl (by decide)) rfl rfl rfl ?_
        | refine LOps.valG (LVal.load hD rfl rfl (by first | assumption | exact box_new _ _ _ | exact box_set _ _ _ | (simp only [box_new, box_set, box_row, box_new_ne, box_set_ne, ne_eq, not_false_eq_true, *] <;> rfl)) rfl rfl) rfl rfl rfl ?_
        | refine LOps.valG (LVal.indexMap hD rfl rfl rfl rfl rfl rfl (by first | assumption | omega) rfl) rfl rfl rfl ?_
        | refine LOps.valG (LVal.loadRo hD rfl rfl rfl rfl) rfl rfl rfl ?_
        | refine LOps.valG (LVal.fieldAddrRo hD rfl rfl rfl rfl rfl rfl (by decide)) rfl rfl rfl ?_
        | refine LOps.valG (LVal.field hD rfl rfl rfl rfl rfl rfl rfl) rfl rfl rfl ?_
        | refine LOps.valG (LVal.buildSlice1 hD rfl rfl rfl rfl rfl rfl rfl rfl rfl rfl) rfl rfl rfl ?_
        | refine LOps.valG (LVal.build hD rfl rfl rfl rfl rfl rfl rfl) rfl rfl rfl ?_
        | refine LOps.valG (LVal.buildSlice hD rfl rfl rfl rfl rfl rfl rfl rfl rfl rfl) rfl rfl rfl ?_
        | refine LOps.valG (LVal.takeMap hD rfl rfl rfl rfl rfl rfl (by first | assumption | omega) rfl (fun _ _ => rfl)) rfl rfl rfl ?_
        | refine LOps.valG (LVal.dropMap hD rfl rfl rfl rfl rfl rfl (by first | assumption | omega) rfl (fun _ _ => rfl)) rfl rfl rfl ?_
        | refine LOps.valG (LVal.cutMap hD rfl rfl rfl rfl rfl rfl rfl (by first | assumption | omega) (by first | assumption | omega) rfl (fun _ _ => rfl)) rfl rfl rfl ?_
        | refine LOps.valG (LVal.move2 rfl rfl) rfl rfl rfl ?_
        | refine LOps.valG (LVal.assign2 rfl rfl) rfl rfl rfl ?_
        | refine LOps.valG (LVal.move (.inl rfl)) rfl rfl rfl ?_
        | refine LOps.valG (LVal.move (.inr rfl)) rfl rfl rfl ?_
        | (refine LOps.do0 (LDo.store hD rfl rfl (by first | assumption | exact box_new _ _ _ | exact box_set _ _ _ | (simp only [box_new, box_set, box_row, box_new_ne, box_set_ne, ne_eq, not_false_eq_true, *] <;> rfl)) rfl rfl rfl rfl) rfl rfl ?_; rintro _ _ ⟨rfl, rfl⟩))
      refine ⟨2 - (a + 1), by omega, _, a + 1, b9, by omega, rfl, ⟨?_, ?_, ?_, ?_⟩, q5, q6, q7, holds.over ⟨rfl, rfl, rfl, rfl, rfl, trivial⟩⟩
      · rw [box_set_ne _ _ q5, box_set_ne _ _ q5]; exact p5
      · rw [box_set_ne _ _ q6, box_set_ne _ _ q6]; exact p6
      · rw [box_set_ne _ _ q7, box_set_ne _ _ q7]; exact p7
      · rw [box_set]; rfl
    · clear hB z hd S
      rintro c k S hk ⟨rfl, rfl, rfl, hB, z⟩
      have k5 := hB.h5
      have k7 := hB.h7
      have k22 := hB.h22
      repeat (first
        | refine LOps.nil ?_
        | refine andThen_normal ?_
        | refine andThen_exit ?_
        | refine andThen_ret ?_
        | refine inBlock_normal ?_
        | refine inBlock_ret ?_
        | refine inBlock_here ?_
        | refine inBlock_out rfl ?_
        | refine LWp.seq ?_
        | refine LWp.region ?_
        | refine LWp.block ?_
        | refine LWp.exit ?_
        | refine LWp.ret ?_
        | refine LWp.skip ?_
        | refine LOps.out rfl rfl rfl ?_
        | refine LOps.valG (LVal.move1 rfl rfl) rfl rfl rfl ?_
        | refine LOps.valG (LVal.assign1 rfl rfl) rfl rfl rfl ?_
        | refine LOps.valG (LVal.len hD rfl rfl rfl rfl) rfl rfl rfl ?_
        | refine LOps.valG (LVal.lenStr hD rfl rfl rfl rfl) rfl rfl rfl ?_
        | refine LOps.valG (LVal.add64 rfl rfl rfl (by omega)) rfl rfl rfl ?_
        | refine LOps.valG (LVal.sub64 rfl rfl rfl (by omega)) rfl rfl rfl ?_
        | refine LOps.valG (LVal.addU64 rfl rfl rfl (by omega)) rfl rfl rfl ?_
        | refine LOps.valG (LVal.subU64 rfl rfl rfl (by omega)) rfl rfl rfl ?_
        | refine LOps.valG (LVal.mulU64 rfl rfl rfl (by omega)) rfl rfl rfl ?_
        | refine LOps.valG (LVal.remI rfl rfl rfl (by omega)) rfl rfl rfl ?_
        | refine LOps.valG (LVal.quoU64 rfl rfl rfl (by omega)) rfl rfl rfl ?_
        | refine LOps.valG (LVal.quo64 rfl rfl rfl (by omega)) rfl rfl rfl ?_
        | refine LOps.valG (LVal.mul64 rfl rfl rfl (by omega)) rfl rfl rfl ?_
        | refine LOps.valG (LVal.conv64 hD rfl rfl rfl rfl rfl (by omega)) rfl rfl rfl ?_
        | refine LOps.valG (LVal.convU64 hD rfl rfl rfl rfl rfl (by omega)) rfl rfl rfl ?_
        | refine LOps.valG (LVal.neqSame hD rfl rfl rfl) rfl rfl rfl ?_
        | refine LOps.valG (LVal.neqSameB hD rfl rfl rfl rfl rfl) rfl rfl rfl ?_
        | refine LOps.valG (LVal.binOp hD rfl rfl rfl rfl) rfl rfl rfl ?_
        | refine LOps.valG (LVal.unOp rfl rfl rfl) rfl rfl rfl ?_
        | refine LOps.valG (LVal.pick rfl rfl) rfl rfl rfl ?_
        | refine LOps.valG (LVal.extract rfl rfl rfl) rfl rfl rfl ?_
        | refine LOps.valG (LVal.convInt hD rfl rfl rfl rfl rfl) rfl rfl rfl ?_
        | refine LOps.valG (LVal.fieldAddr hD rfl rfl rfl rfl rfl rfl (by decide)) rfl rfl rfl ?_
        | refine LOps.valG (LVal.load hD rfl rfl (by first | assumption | exact box_new _ _ _ | exact box_set _ _ _ | (simp only [box_new, box_set, box_row, box_new_ne, box_set_ne, ne_eq, not_false_eq_true, *] <;> rfl)) rfl rfl) rfl rfl rfl ?_
        | refine LOps.valG (LVal.indexMap hD rfl rfl rfl rfl rfl rfl (by first | assumption | omega) rfl) rfl rfl rfl ?_
        | refine LOps.valG (LVal.loadRo hD rfl rfl rfl rfl) rfl rfl rfl ?_
        | refine LOps.valG (LVal.fieldAddrRo hD rfl rfl rfl rfl rfl rfl (by decide)) rfl rfl rfl ?_
        | refine LOps.valG (LVal.field hD rfl rfl rfl rfl rfl rfl rfl) rfl rfl rfl ?_
        | refine LOps.valG (LVal.buildSlice1 hD rfl rfl rfl rfl rfl rfl rfl rfl rfl rfl) rfl rfl rfl ?_
        | refine LOps.valG (LVal.build hD rfl rfl rfl rfl rfl rfl rfl) rfl rfl rfl ?_
        | refine LOps.valG (LVal.buildSlice hD rfl rfl rfl rfl rfl rfl rfl rfl rfl rfl) rfl rfl rfl ?_
        | refine LOps.valG (LVal.takeMap hD rfl rfl rfl rfl rfl rfl (by first | assumption | omega) rfl (fun _ _ => rfl)) rfl rfl rfl ?_
        | refine LOps.valG (LVal.dropMap hD rfl rfl rfl rfl rfl rfl (by first | assumption | omega) rfl (fun _ _ => rfl)) rfl rfl rfl ?_
        | refine LOps.valG (LVal.cutMap hD rfl rfl rfl rfl rfl rfl rfl (by first | assumption | omega) (by first | assumption | omega) rfl (fun _ _ => rfl)) rfl rfl rfl ?_
        | refine LOps.valG (LVal.move2 rfl rfl) rfl rfl rfl ?_
        | refine LOps.valG (LVal.assign2 rfl rfl) rfl rfl rfl ?_
        | refine LOps.valG (LVal.move (.inl rfl)) rfl rfl rfl ?_
        | refine LOps.valG (LVal.move (.inr rfl)) rfl rfl rfl ?_
        | (refine LOps.do0 (LDo.store hD rfl rfl (by first | assumption | exact box_new _ _ _ | exact box_set _ _ _ | (simp only [box_new, box_set, box_row, box_new_ne, box_set_ne, ne_eq, not_false_eq_true, *] <;> rfl)) rfl rfl rfl rfl) rfl rfl ?_; rintro _ _ ⟨rfl, rfl⟩))
      refine LOps.guard rfl rfl rfl (fun hg => ?_) (fun hg => ?_)
      · repeat (first
          | refine LOps.nil ?_
          | refine andThen_normal ?_
          | refine andThen_exit ?_
          | refine andThen_ret ?_
          | refine inBlock_normal ?_
          | refine inBlock_ret ?_
          | refine inBlock_here ?_
          | refine inBlock_out rfl ?_
          | refine LWp.seq ?_
          | refine LWp.region ?_
          | refine LWp.block ?_
          | refine LWp.exit ?_
          | refine LWp.ret ?_
          | refine LWp.skip ?_
          | refine LOps.out rfl rfl rfl ?_
          | refine LOps.valG (LVal.move1 rfl rfl) rfl rfl rfl ?_
          | refine LOps.valG (LVal.assign1 rfl rfl) rfl rfl rfl ?_
          | refine LOps.valG (LVal.len hD rfl rfl rfl rfl) rfl rfl rfl ?_
          | refine LOps.valG (LVal.lenStr hD rfl rfl rfl rfl) rfl rfl rfl ?_
          | refine LOps.valG (LVal.add64 rfl rfl rfl (by omega)) rfl rfl rfl ?_
          | refine LOps.valG (LVal.sub64 rfl rfl rfl (by omega)) rfl rfl rfl ?_
          | refine LOps.valG (LVal.addU64 rfl rfl rfl (by omega)) rfl rfl rfl ?_
          | refine LOps.valG (LVal.subU64 rfl rfl rfl (by omega)) rfl rfl rfl ?_
          | refine LOps.valG (LVal.mulU64 rfl rfl rfl (by omega)) rfl rfl rfl ?_
          | refine LOps.valG (LVal.remI rfl rfl rfl (by omega)) rfl rfl rfl ?_
          | refine LOps.valG (LVal.quoU64 rfl rfl rfl (by omega)) rfl rfl rfl ?_
          | refine LOps.valG (LVal.quo64 rfl rfl rfl (by omega)) rfl rfl rfl ?_
          | refine LOps.valG (LVal.mul64 rfl rfl rfl (by omega)) rfl rfl rfl ?_
          | refine LOps.valG (LVal.conv64 hD rfl rfl rfl rfl rfl (by omega)) rfl rfl rfl ?_
          | refine LOps.valG (LVal.convU64 hD rfl rfl rfl rfl rfl (by omega)) rfl rfl rfl ?_
          | refine LOps.valG (LVal.neqSame hD rfl rfl rfl) rfl rfl rfl ?_
          | refine LOps.valG (LVal.neqSameB hD rfl rfl rfl rfl rfl) rfl rfl rfl ?_
          | refine LOps.valG (LVal.binOp hD rfl rfl rfl rfl) rfl rfl rfl ?_
          | refine LOps.valG (LVal.unOp rfl rfl rfl) rfl rfl rfl ?_
          | refine LOps.valG (LVal.pick rfl rfl) rfl rfl rfl ?_
          | refine LOps.valG (LVal.extract rfl rfl rfl) rfl rfl rfl ?_
          | refine LOps.valG (LVal.convInt hD rfl rfl rfl rfl rfl) rfl rfl rfl ?_
          | refine LOps.valG (LVal.fieldAddr hD rfl rfl rfl rfl rfl rfl (by decide)) rfl rfl rfl ?_
          | refine LOps.valG (LVal.load hD rfl rfl (by first | assumption | exact box_new _ _ _ | exact box_set _ _ _ | (simp only [box_new, box_set, box_row, box_new_ne, box_set_ne, ne_eq, not_false_eq_true, *] <;> rfl)) rfl rfl) rfl rfl rfl ?_
          | refine LOps.valG (LVal.indexMap hD rfl rfl rfl rfl rfl rfl (by first | assumption | omega) rfl) rfl rfl rfl ?_
          | refine LOps.valG (LVal.loadRo hD rfl rfl rfl rfl) rfl rfl rfl ?_
          | refine LOps.valG (LVal.fieldAddrRo hD rfl rfl rfl rfl rfl rfl (by decide)) rfl rfl rfl ?_
          | refine LOps.valG (LVal.field hD rfl rfl rfl rfl rfl rfl rfl) rfl rfl rfl ?_
          | refine LOps.valG (LVal.buildSlice1 hD rfl rfl rfl rfl rfl rfl rfl rfl rfl rfl) rfl rfl rfl ?_
          | refine LOps.valG (LVal.build hD rfl rfl rfl rfl rfl rfl rfl) rfl rfl rfl ?_
          | refine LOps.valG (LVal.buildSlice hD rfl rfl rfl rfl rfl rfl rfl rfl rfl rfl) rfl rfl rfl ?_
          | refine LOps.valG (LVal.takeMap hD rfl rfl rfl rfl rfl rfl (by first | assumption | omega) rfl (fun _ _ => rfl)) rfl rfl rfl ?_
          | refine LOps.valG (LVal.dropMap hD rfl rfl rfl rfl rfl rfl (by first | assumption | omega) rfl (fun _ _ => rfl)) rfl rfl rfl ?_
          | refine LOps.valG (LVal.cutMap hD rfl rfl rfl rfl rfl rfl rfl (by first | assumption | omega) (by first | assumption | omega) rfl (fun _ _ => rfl)) rfl rfl rfl ?_
          | refine LOps.valG (LVal.move2 rfl rfl) rfl rfl rfl ?_
          | refine LOps.valG (LVal.assign2 rfl rfl) rfl rfl rfl ?_
          | refine LOps.valG (LVal.move (.inl rfl)) rfl rfl rfl ?_
          | refine LOps.valG (LVal.move (.inr rfl)) rfl rfl rfl ?_
          | (refine LOps.do0 (LDo.store hD rfl rfl (by first | assumption | exact box_new _ _ _ | exact box_set _ _ _ | (simp only [box_new, box_set, box_row, box_new_ne, box_set_ne, ne_eq, not_false_eq_true, *] <;> rfl)) rfl rfl rfl rfl) rfl rfl ?_; rintro _ _ ⟨rfl, rfl⟩))
        refine LWp.condF rfl ?_
        repeat (first
          | refine LOps.nil ?_
          | refine andThen_normal ?_
          | refine andThen_exit ?_
          | refine andThen_ret ?_
          | refine inBlock_normal ?_
          | refine inBlock_ret ?_
          | refine inBlock_here ?_
          | refine inBlock_out rfl ?_
          | refine LWp.seq ?_
          | refine LWp.region ?_
          | refine LWp.block ?_
          | refine LWp.exit ?_
          | refine LWp.ret ?_
          | refine LWp.skip ?_
          | refine LOps.out rfl rfl rfl ?_
          | refine LOps.valG (LVal.move1 rfl rfl) rfl rfl rfl ?_
          | refine LOps.valG (LVal.assign1 rfl rfl) rfl rfl rfl ?_
          | refine LOps.valG (LVal.len hD rfl rfl rfl rfl) rfl rfl rfl ?_
          | refine LOps.valG (LVal.lenStr hD rfl rfl rfl rfl) rfl rfl rfl ?_
          | refine LOps.valG (LVal.add64 rfl rfl rfl (by omega)) rfl rfl rfl ?_
          | refine LOps.valG (LVal.sub64 rfl rfl rfl (by omega)) rfl rfl rfl ?_
          | refine LOps.valG (LVal.addU64 rfl rfl rfl (by omega)) rfl rfl rfl ?_
          | refine LOps.valG (LVal.subU64 rfl rfl rfl (by omega)) rfl rfl rfl ?_
          | refine LOps.valG (LVal.mulU64 rfl rfl rfl (by omega)) rfl rfl rfl ?_
          | refine LOps.valG (LVal.remI rfl rfl rfl (by omega)) rfl rfl rfl ?_
          | refine LOps.valG (LVal.quoU64 rfl rfl rfl (by omega)) rfl rfl rfl ?_
          | refine LOps.valG (LVal.quo64 rfl rfl rfl (by omega)) rfl rfl rfl ?_
          | refine LOps.valG (LVal.mul64 rfl rfl rfl (by omega)) rfl rfl rfl ?_
          | refine LOps.valG (LVal.conv64 hD rfl rfl rfl rfl rfl (by omega)) rfl rfl rfl ?_
          | refine LOps.valG (LVal.convU64 hD rfl rfl rfl rfl rfl (by omega)) rfl rfl rfl ?_
          | refine LOps.valG (LVal.neqSame hD rfl rfl rfl) rfl rfl rfl ?_
          | refine LOps.valG (LVal.neqSameB hD rfl rfl rfl rfl rfl) rfl rfl rfl ?_
          | refine LOps.valG (LVal.binOp hD rfl rfl rfl rfl) rfl rfl rfl ?_
          | refine LOps.valG (LVal.unOp rfl rfl rfl) rfl rfl rfl ?_
          | refine LOps.valG (LVal.pick rfl rfl) rfl rfl rfl ?_
          | refine LOps.valG (LVal.extract rfl rfl rfl) rfl rfl rfl ?_
          | refine LOps.valG (LVal.convInt hD rfl rfl rfl rfl rfl) rfl rfl rfl ?_
          | refine LOps.valG (LVal.fieldAddr hD rfl rfl rfl rfl rfl rfl (by decide)) rfl rfl rfl ?_
          | refine LOps.valG (LVal.load hD rfl rfl (by first | assumption | exact box_new _ _ _ | exact box_set _ _ _ | (simp only [box_new, box_set, box_row, box_new_ne, box_set_ne, ne_eq, not_false_eq_true, *] <;> rfl)) rfl rfl) rfl rfl rfl ?_
          | refine LOps.valG (LVal.indexMap hD rfl rfl rfl rfl rfl rfl (by first | assumption | omega) rfl) rfl rfl rfl ?_
          | refine LOps.valG (LVal.loadRo hD rfl rfl rfl rfl) rfl rfl rfl ?_
          | refine LOps.valG (LVal.fieldAddrRo hD rfl rfl rfl rfl rfl rfl (by decide)) rfl rfl rfl ?_
          | refine LOps.valG (LVal.field hD rfl rfl rfl rfl rfl rfl rfl) rfl rfl rfl ?_
          | refine LOps.valG (LVal.buildSlice1 hD rfl rfl rfl rfl rfl rfl rfl rfl rfl rfl) rfl rfl rfl ?_
          | refine LOps.valG (LVal.build hD rfl rfl rfl rfl rfl rfl rfl) rfl rfl rfl ?_
          | refine LOps.valG (LVal.buildSlice hD rfl rfl rfl rfl rfl rfl rfl rfl rfl rfl) rfl rfl rfl ?_
          | refine LOps.valG (LVal.takeMap hD rfl rfl rfl rfl rfl rfl (by first | assumption | omega) rfl (fun _ _ => rfl)) rfl rfl rfl ?_
          | refine LOps.valG (LVal.dropMap hD rfl rfl rfl rfl rfl rfl (by first | assumption | omega) rfl (fun _ _ => rfl)) rfl rfl rfl ?_
          | refine LOps.valG (LVal.cutMap hD rfl rfl rfl rfl rfl rfl rfl (by first | assumption | omega) (by first | assumption | omega) rfl (fun _ _ => rfl)) rfl rfl rfl ?_
          | refine LOps.valG (LVal.move2 rfl rfl) rfl rfl rfl ?_
          | refine LOps.valG (LVal.assign2 rfl rfl) rfl rfl rfl ?_
          | refine LOps.valG (LVal.move (.inl rfl)) rfl rfl rfl ?_
          | refine LOps.valG (LVal.move (.inr rfl)) rfl rfl rfl ?_
          | (refine LOps.do0 (LDo.store hD rfl rfl (by first | assumption | exact box_new _ _ _ | exact box_set _ _ _ | (simp only [box_new, box_set, box_row, box_new_ne, box_set_ne, ne_eq, not_false_eq_true, *] <;> rfl)) rfl rfl rfl rfl) rfl rfl ?_; rintro _ _ ⟨rfl, rfl⟩))
        refine LOps.do (LDo.alloc hD rfl rfl rfl) rfl rfl rfl ?_
        rintro _ _ ⟨b9, hb9, rfl, rfl⟩
        have q5 : b5 ≠ b9 := fresh_ne hb9 hB.h5
        have q6 : b6 ≠ b9 := fresh_ne hb9 hB.h6
        have q7 : b7 ≠ b9 := fresh_ne hb9 hB.h7
        have p5 := (box_new_ne _ (ti3.zero.cells.toList.map constLV) q5).trans hB.h5
        have p6 := (box_new_ne _ (ti3.zero.cells.toList.map constLV) q6).trans hB.h6
        have p7 := (box_new_ne _ (ti3.zero.cells.toList.map constLV) q7).trans hB.h7
        repeat (first
          | refine LOps.nil ?_
          | refine andThen_normal ?_
          | refine andThen_exit ?_
          | refine andThen_ret ?_
          | refine inBlock_normal ?_
          | refine inBlock_ret ?_
          | refine inBlock_here ?_
          | refine inBlock_out rfl ?_
          | refine LWp.seq ?_
          | refine LWp.region ?_
          | refine LWp.block ?_
          | refine LWp.exit ?_
          | refine LWp.ret ?_
          | refine LWp.skip ?_
          | refine LOps.out rfl rfl rfl ?_
          | refine LOps.valG (LVal.move1 rfl rfl) rfl rfl rfl ?_
          | refine LOps.valG (LVal.assign1 rfl rfl) rfl rfl rfl ?_
          | refine LOps.valG (LVal.len hD rfl rfl rfl rfl) rfl rfl rfl ?_
          | refine LOps.valG (LVal.lenStr hD rfl rfl rfl rfl) rfl rfl rfl ?_
          | refine LOps.valG (LVal.add64 rfl rfl rfl (by omega)) rfl rfl rfl ?_
          | refine LOps.valG (LVal.sub64 rfl rfl rfl (by omega)) rfl rfl rfl ?_
          | refine LOps.valG (LVal.addU64 rfl rfl rfl (by omega)) rfl rfl rfl ?_
          | refine LOps.valG (LVal.subU64 rfl rfl rfl (by omega)) rfl rfl rfl ?_
          | refine LOps.valG (LVal.mulU64 rfl rfl rfl (by omega)) rfl rfl rfl ?_
          | refine LOps.valG (LVal.remI rfl rfl rfl (by omega)) rfl rfl rfl ?_
          | refine LOps.valG (LVal.quoU64 rfl rfl rfl (by omega)) rfl rfl rfl ?_
          | refine LOps.valG (LVal.quo64 rfl rfl rfl (by omega)) rfl rfl rfl ?_
          | refine LOps.valG (LVal.mul64 rfl rfl rfl (by omega)) rfl rfl rfl ?_
          | refine LOps.valG (LVal.conv64 hD rfl rfl rfl rfl rfl (by omega)) rfl rfl rfl ?_
          | refine LOps.valG (LVal.convU64 hD rfl rfl rfl rfl rfl (by omega)) rfl rfl rfl ?_
          | refine LOps.valG (LVal.neqSame hD rfl rfl rfl) rfl rfl rfl ?_
          | refine LOps.valG (LVal.neqSameB hD rfl rfl rfl rfl rfl) rfl rfl rfl ?_
          | refine LOps.valG (LVal.binOp hD rfl rfl rfl rfl) rfl rfl rfl ?_
          | refine LOps.valG (LVal.unOp rfl rfl rfl) rfl rfl rfl ?_
          | refine LOps.valG (LVal.pick rfl rfl) rfl rfl rfl ?_
          | refine LOps.valG (LVal.extract rfl rfl rfl) rfl rfl rfl ?_
          | refine LOps.valG (LVal.convInt hD rfl rfl rfl rfl rfl) rfl rfl rfl ?_
          | refine LOps.valG (LVal.fieldAddr hD rfl rfl rfl rfl rfl rfl (by decide)) rfl rfl rfl ?_
          | refine LOps.valG (LVal.load hD rfl rfl (by first | assumption | exact box_new _ _ _ | exact box_set _ _ _ | (simp only [box_new, box_set, box_row, box_new_ne, box_set_ne, ne_eq, not_false_eq_true, *] <;> rfl)) rfl rfl) rfl rfl rfl ?_
          | refine LOps.valG (LVal.indexMap hD rfl rfl rfl rfl rfl rfl (by first | assumption | omega) rfl) rfl rfl rfl ?_
          | refine LOps.valG (LVal.loadRo hD rfl rfl rfl rfl) rfl rfl rfl ?_
          | refine LOps.valG (LVal.fieldAddrRo hD rfl rfl rfl rfl rfl rfl (by decide)) rfl rfl rfl ?_
          | refine LOps.valG (LVal.field hD rfl rfl rfl rfl rfl rfl rfl) rfl rfl rfl ?_
          | refine LOps.valG (LVal.buildSlice1 hD rfl rfl rfl rfl rfl rfl rfl rfl rfl rfl) rfl rfl rfl ?_
          | refine LOps.valG (LVal.build hD rfl rfl rfl rfl rfl rfl rfl) rfl rfl rfl ?_
          | refine LOps.valG (LVal.buildSlice hD rfl rfl rfl rfl rfl rfl rfl rfl rfl rfl) rfl rfl rfl ?_
          | refine LOps.valG (LVal.takeMap hD rfl rfl rfl rfl rfl rfl (by first | assumption | omega) rfl (fun _ _ => rfl)) rfl rfl rfl ?_
          | refine LOps.valG (LVal.dropMap hD rfl rfl rfl rfl rfl rfl (by first | assumption | omega) rfl (fun _ _ => rfl)) rfl rfl rfl ?_
          | refine LOps.valG (LVal.cutMap hD rfl rfl rfl rfl rfl rfl rfl (by first | assumption | omega) (by first | assumption | omega) rfl (fun _ _ => rfl)) rfl rfl rfl ?_
          | refine LOps.valG (LVal.move2 rfl rfl) rfl rfl rfl ?_
          | refine LOps.valG (LVal.assign2 rfl rfl) rfl rfl rfl ?_
          | refine LOps.valG (LVal.move (.inl rfl)) rfl rfl rfl ?_
          | refine LOps.valG (LVal.move (.inr rfl)) rfl rfl rfl ?_
          | (refine LOps.do0 (LDo.store hD rfl rfl (by first | assumption | exact box_new _ _ _ | exact box_set _ _ _ | (simp only [box_new, box_set, box_row, box_new_ne, box_set_ne, ne_eq, not_false_eq_true, *] <;> rfl)) rfl rfl rfl rfl) rfl rfl ?_; rintro _ _ ⟨rfl, rfl⟩))
        refine ⟨2 - (0 + 1), by omega, _, 0 + 1, b9, by omega, rfl, ⟨?_, ?_, ?_, ?_⟩, q5, q6, q7, holds.over ⟨rfl, rfl, rfl, rfl, rfl, trivial⟩⟩
        · rw [box_set_ne _ _ q5, box_set_ne _ _ q5]; exact p5
        · rw [box_set_ne _ _ q6, box_set_ne _ _ q6]; exact p6
        · rw [box_set_ne _ _ q7, box_set_ne _ _ q7]; exact p7
        · rw [box_set]; rfl
      · repeat (first
          | refine LOps.nil ?_
          | refine andThen_normal ?_
          | refine andThen_exit ?_
          | refine andThen_ret ?_
          | refine inBlock_normal ?_
          | refine inBlock_ret ?_
          | refine inBlock_here ?_
          | refine inBlock_out rfl ?_
          | refine LWp.seq ?_
          | refine LWp.region ?_
          | refine LWp.block ?_
          | refine LWp.exit ?_
          | refine LWp.ret ?_
          | refine LWp.skip ?_
          | refine LOps.out rfl rfl rfl ?_
          | refine LOps.valG (LVal.move1 rfl rfl) rfl rfl rfl ?_
          | refine LOps.valG (LVal.assign1 rfl rfl) rfl rfl rfl ?_
          | refine LOps.valG (LVal.len hD rfl rfl rfl rfl) rfl rfl rfl ?_
          | refine LOps.valG (LVal.lenStr hD rfl rfl rfl rfl) rfl rfl rfl ?_
          | refine LOps.valG (LVal.add64 rfl rfl rfl (by omega)) rfl rfl rfl ?_
          | refine LOps.valG (LVal.sub64 rfl rfl rfl (by omega)) rfl rfl rfl ?_
          | refine LOps.valG (LVal.addU64 rfl rfl rfl (by omega)) rfl rfl rfl ?_
          | refine LOps.valG (LVal.subU64 rfl rfl rfl (by omega)) rfl rfl rfl ?_
          | refine LOps.valG (LVal.mulU64 rfl rfl rfl (by omega)) rfl rfl rfl ?_
          | refine LOps.valG (LVal.remI rfl rfl rfl (by omega)) rfl rfl rfl ?_
          | refine LOps.valG (LVal.quoU64 rfl rfl rfl (by omega)) rfl rfl rfl ?_
          | refine LOps.valG (LVal.quo64 rfl rfl rfl (by omega)) rfl rfl rfl ?_
          | refine LOps.valG (LVal.mul64 rfl rfl rfl (by omega)) rfl rfl rfl ?_
          | refine LOps.valG (LVal.conv64 hD rfl rfl rfl rfl rfl (by omega)) rfl rfl rfl ?_
          | refine LOps.valG (LVal.convU64 hD rfl rfl rfl rfl rfl (by omega)) rfl rfl rfl ?_
          | refine LOps.valG (LVal.neqSame hD rfl rfl rfl) rfl rfl rfl ?_
          | refine LOps.valG (LVal.neqSameB hD rfl rfl rfl rfl rfl) rfl rfl rfl ?_
          | refine LOps.valG (LVal.binOp hD rfl rfl rfl rfl) rfl rfl rfl ?_
          | refine LOps.valG (LVal.unOp rfl rfl rfl) rfl rfl rfl ?_
          | refine LOps.valG (LVal.pick rfl rfl) rfl rfl rfl ?_
          | refine LOps.valG (LVal.extract rfl rfl rfl) rfl rfl rfl ?_
          | refine LOps.valG (LVal.convInt hD rfl rfl rfl rfl rfl) rfl rfl rfl ?_
          | refine LOps.valG (LVal.fieldAddr hD rfl rfl rfl rfl rfl rfl (by decide)) rfl rfl rfl ?_
          | refine LOps.valG (LVal.load hD rfl rfl (by first | assumption | exact box_new _ _ _ | exact box_set _ _ _ | (simp only [box_new, box_set, box_row, box_new_ne, box_set_ne, ne_eq, not_false_eq_true, *] <;> rfl)) rfl rfl) rfl rfl rfl ?_
          | refine LOps.valG (LVal.indexMap hD rfl rfl rfl rfl rfl rfl (by first | assumption | omega) rfl) rfl rfl rfl ?_
          | refine LOps.valG (LVal.loadRo hD rfl rfl rfl rfl) rfl rfl rfl ?_
          | refine LOps.valG (LVal.fieldAddrRo hD rfl rfl rfl rfl rfl rfl (by decide)) rfl rfl rfl ?_
          | refine LOps.valG (LVal.field hD rfl rfl rfl rfl rfl rfl rfl) rfl rfl rfl ?_
          | refine LOps.valG (LVal.buildSlice1 hD rfl rfl rfl rfl rfl rfl rfl rfl rfl rfl) rfl rfl rfl ?_
          | refine LOps.valG (LVal.build hD rfl rfl rfl rfl rfl rfl rfl) rfl rfl rfl ?_
          | refine LOps.valG (LVal.buildSlice hD rfl rfl rfl rfl rfl rfl rfl rfl rfl rfl) rfl rfl rfl ?_
          | refine LOps.valG (LVal.takeMap hD rfl rfl rfl rfl rfl rfl (by first | assumption | omega) rfl (fun _ _ => rfl)) rfl rfl rfl ?_
          | refine LOps.valG (LVal.dropMap hD rfl rfl rfl rfl rfl rfl (by first | assumption | omega) rfl (fun _ _ => rfl)) rfl rfl rfl ?_
          | refine LOps.valG (LVal.cutMap hD rfl rfl rfl rfl rfl rfl rfl (by first | assumption | omega) (by first | assumption | omega) rfl (fun _ _ => rfl)) rfl rfl rfl ?_
          | refine LOps.valG (LVal.move2 rfl rfl) rfl rfl rfl ?_
          | refine LOps.valG (LVal.assign2 rfl rfl) rfl rfl rfl ?_
          | refine LOps.valG (LVal.move (.inl rfl)) rfl rfl rfl ?_
          | refine LOps.valG (LVal.move (.inr rfl)) rfl rfl rfl ?_
          | (refine LOps.do0 (LDo.store hD rfl rfl (by first | assumption | exact box_new _ _ _ | exact box_set _ _ _ | (simp only [box_new, box_set, box_row, box_new_ne, box_set_ne, ne_eq, not_false_eq_true, *] <;> rfl)) rfl rfl rfl rfl) rfl rfl ?_; rintro _ _ ⟨rfl, rfl⟩))
        refine LWp.condF rfl ?_
        repeat (first
          | refine LOps.nil ?_
          | refine andThen_normal ?_
          | refine andThen_exit ?_
          | refine andThen_ret ?_
          | refine inBlock_normal ?_
          | refine inBlock_ret ?_
          | refine inBlock_here ?_
          | refine inBlock_out rfl ?_
          | refine LWp.seq ?_
          | refine LWp.region ?_
          | refine LWp.block ?_
          | refine LWp.exit ?_
          | refine LWp.ret ?_
          | refine LWp.skip ?_
          | refine LOps.out rfl rfl rfl ?_
          | refine LOps.valG (LVal.move1 rfl rfl) rfl rfl rfl ?_
          | refine LOps.valG (LVal.assign1 rfl rfl) rfl rfl rfl ?_
          | refine LOps.valG (LVal.len hD rfl rfl rfl rfl) rfl rfl rfl ?_
          | refine LOps.valG (LVal.lenStr hD rfl rfl rfl rfl) rfl rfl rfl ?_
          | refine LOps.valG (LVal.add64 rfl rfl rfl (by omega)) rfl rfl rfl ?_
          | refine LOps.valG (LVal.sub64 rfl rfl rfl (by omega)) rfl rfl rfl ?_
          | refine LOps.valG (LVal.addU64 rfl rfl rfl (by omega)) rfl rfl rfl ?_
          | refine LOps.valG (LVal.subU64 rfl rfl rfl (by omega)) rfl rfl rfl ?_
          | refine LOps.valG (LVal.mulU64 rfl rfl rfl (by omega)) rfl rfl rfl ?_
          | refine LOps.valG (LVal.remI rfl rfl rfl (by omega)) rfl rfl rfl ?_
          | refine LOps.valG (LVal.quoU64 rfl rfl rfl (by omega)) rfl rfl rfl ?_
          | refine LOps.valG (LVal.quo64 rfl rfl rfl (by omega)) rfl rfl rfl ?_
          | refine LOps.valG (LVal.mul64 rfl rfl rfl (by omega)) rfl rfl rfl ?_
          | refine LOps.valG (LVal.conv64 hD rfl rfl rfl rfl rfl (by omega)) rfl rfl rfl ?_
          | refine LOps.valG (LVal.convU64 hD rfl rfl rfl rfl rfl (by omega)) rfl rfl rfl ?_
          | refine LOps.valG (LVal.neqSame hD rfl rfl rfl) rfl rfl rfl ?_
          | refine LOps.valG (LVal.neqSameB hD rfl rfl rfl rfl rfl) rfl rfl rfl ?_
          | refine LOps.valG (LVal.binOp hD rfl rfl rfl rfl) rfl rfl rfl ?_
          | refine LOps.valG (LVal.unOp rfl rfl rfl) rfl rfl rfl ?_
          | refine LOps.valG (LVal.pick rfl rfl) rfl rfl rfl ?_
          | refine LOps.valG (LVal.extract rfl rfl rfl) rfl rfl rfl ?_
          | refine LOps.valG (LVal.convInt hD rfl rfl rfl rfl rfl) rfl rfl rfl ?_
          | refine LOps.valG (LVal.fieldAddr hD rfl rfl rfl rfl rfl rfl (by decide)) rfl rfl rfl ?_
          | refine LOps.valG (LVal.load hD rfl rfl (by first | assumption | exact box_new _ _ _ | exact box_set _ _ _ | (simp only [box_new, box_set, box_row, box_new_ne, box_set_ne, ne_eq, not_false_eq_true, *] <;> rfl)) rfl rfl) rfl rfl rfl ?_
          | refine LOps.valG (LVal.indexMap hD rfl rfl rfl rfl rfl rfl (by first | assumption | omega) rfl) rfl rfl rfl ?_
          | refine LOps.valG (LVal.loadRo hD rfl rfl rfl rfl) rfl rfl rfl ?_
          | refine LOps.valG (LVal.fieldAddrRo hD rfl rfl rfl rfl rfl rfl (by decide)) rfl rfl rfl ?_
          | refine LOps.valG (LVal.field hD rfl rfl rfl rfl rfl rfl rfl) rfl rfl rfl ?_
          | refine LOps.valG (LVal.buildSlice1 hD rfl rfl rfl rfl rfl rfl rfl rfl rfl rfl) rfl rfl rfl ?_
          | refine LOps.valG (LVal.build hD rfl rfl rfl rfl rfl rfl rfl) rfl rfl rfl ?_
          | refine LOps.valG (LVal.buildSlice hD rfl rfl rfl rfl rfl rfl rfl rfl rfl rfl) rfl rfl rfl ?_
          | refine LOps.valG (LVal.takeMap hD rfl rfl rfl rfl rfl rfl (by first | assumption | omega) rfl (fun _ _ => rfl)) rfl rfl rfl ?_
          | refine LOps.valG (LVal.dropMap hD rfl rfl rfl rfl rfl rfl (by first | assumption | omega) rfl (fun _ _ => rfl)) rfl rfl rfl ?_
          | refine LOps.valG (LVal.cutMap hD rfl rfl rfl rfl rfl rfl rfl (by first | assumption | omega) (by first | assumption | omega) rfl (fun _ _ => rfl)) rfl rfl rfl ?_
          | refine LOps.valG (LVal.move2 rfl rfl) rfl rfl rfl ?_
          | refine LOps.valG (LVal.assign2 rfl rfl) rfl rfl rfl ?_
          | refine LOps.valG (LVal.move (.inl rfl)) rfl rfl rfl ?_
          | refine LOps.valG (LVal.move (.inr rfl)) rfl rfl rfl ?_
          | (refine LOps.do0 (LDo.store hD rfl rfl (by first | assumption | exact box_new _ _ _ | exact box_set _ _ _ | (simp only [box_new, box_set, box_row, box_new_ne, box_set_ne, ne_eq, not_false_eq_true, *] <;> rfl)) rfl rfl rfl rfl) rfl rfl ?_; rintro _ _ ⟨rfl, rfl⟩))
        refine LOps.do (LDo.alloc hD rfl rfl rfl) rfl rfl rfl ?_
        rintro _ _ ⟨b9, hb9, rfl, rfl⟩
        have q5 : b5 ≠ b9 := fresh_ne hb9 hB.h5
        have q6 : b6 ≠ b9 := fresh_ne hb9 hB.h6
        have q7 : b7 ≠ b9 := fresh_ne hb9 hB.h7
        have p5 := (box_new_ne _ (ti3.zero.cells.toList.map constLV) q5).trans hB.h5
        have p6 := (box_new_ne _ (ti3.zero.cells.toList.map constLV) q6).trans hB.h6
        have p7 := (box_new_ne _ (ti3.zero.cells.toList.map constLV) q7).trans hB.h7
        repeat (first
          | refine LOps.nil ?_
          | refine andThen_normal ?_
          | refine andThen_exit ?_
          | refine andThen_ret ?_
          | refine inBlock_normal ?_
          | refine inBlock_ret ?_
          | refine inBlock_here ?_
          | refine inBlock_out rfl ?_
          | refine LWp.seq ?_
          | refine LWp.region ?_
          | refine LWp.block ?_
          | refine LWp.exit ?_
          | refine LWp.ret ?_
          | refine LWp.skip ?_
          | refine LOps.out rfl rfl rfl ?_
          | refine LOps.valG (LVal.move1 rfl rfl) rfl rfl rfl ?_
          | refine LOps.valG (LVal.assign1 rfl rfl) rfl rfl rfl ?_
          | refine LOps.valG (LVal.len hD rfl rfl rfl rfl) rfl rfl rfl ?_
          | refine LOps.valG (LVal.lenStr hD rfl rfl rfl rfl) rfl rfl rfl ?_
          | refine LOps.valG (LVal.add64 rfl rfl rfl (by omega)) rfl rfl rfl ?_
          | refine LOps.valG (LVal.sub64 rfl rfl rfl (by omega)) rfl rfl rfl ?_
          | refine LOps.valG (LVal.addU64 rfl rfl rfl (by omega)) rfl rfl rfl ?_
          | refine LOps.valG (LVal.subU64 rfl rfl rfl (by omega)) rfl rfl rfl ?_
          | refine LOps.valG (LVal.mulU64 rfl rfl rfl (by omega)) rfl rfl rfl ?_
          | refine LOps.valG (LVal.remI rfl rfl rfl (by omega)) rfl rfl rfl ?_
          | refine LOps.valG (LVal.quoU64 rfl rfl rfl (by omega)) rfl rfl rfl ?_
          | refine LOps.valG (LVal.quo64 rfl rfl rfl (by omega)) rfl rfl rfl ?_
          | refine LOps.valG (LVal.mul64 rfl rfl rfl (by omega)) rfl rfl rfl ?_
          | refine LOps.valG (LVal.conv64 hD rfl rfl rfl rfl rfl (by omega)) rfl rfl rfl ?_
          | refine LOps.valG (LVal.convU64 hD rfl rfl rfl rfl rfl (by omega)) rfl rfl rfl ?_
          | refine LOps.valG (LVal.neqSame hD rfl rfl rfl) rfl rfl rfl ?_
          | refine LOps.valG (LVal.neqSameB hD rfl rfl rfl rfl rfl) rfl rfl rfl ?_
          | refine LOps.valG (LVal.binOp hD rfl rfl rfl rfl) rfl rfl rfl ?_
          | refine LOps.valG (LVal.unOp rfl rfl rfl) rfl rfl rfl ?_
          | refine LOps.valG (LVal.pick rfl rfl) rfl rfl rfl ?_
          | refine LOps.valG (LVal.extract rfl rfl rfl) rfl rfl rfl ?_
          | refine LOps.valG (LVal.convInt hD rfl rfl rfl rfl rfl) rfl rfl rfl ?_
          | refine LOps.valG (LVal.fieldAddr hD rfl rfl rfl rfl rfl rfl (by decide)) rfl rfl rfl ?_
          | refine LOps.valG (LVal.load hD rfl rfl (by first | assumption | exact box_new _ _ _ | exact box_set _ _ _ | (simp only [box_new, box_set, box_row, box_new_ne, box_set_ne, ne_eq, not_false_eq_true, *] <;> rfl)) rfl rfl) rfl rfl rfl ?_
          | refine LOps.valG (LVal.indexMap hD rfl rfl rfl rfl rfl rfl (by first | assumption | omega) rfl) rfl rfl rfl ?_
          | refine LOps.valG (LVal.loadRo hD rfl rfl rfl rfl) rfl rfl rfl ?_
          | refine LOps.valG (LVal.fieldAddrRo hD rfl rfl rfl rfl rfl rfl (by decide)) rfl rfl rfl ?_
          | refine LOps.valG (LVal.field hD rfl rfl rfl rfl rfl rfl rfl) rfl rfl rfl ?_
          | refine LOps.valG (LVal.buildSlice1 hD rfl rfl rfl rfl rfl rfl rfl rfl rfl rfl) rfl rfl rfl ?_
          | refine LOps.valG (LVal.build hD rfl rfl rfl rfl rfl rfl rfl) rfl rfl rfl ?_
          | refine LOps.valG (LVal.buildSlice hD rfl rfl rfl rfl rfl rfl rfl rfl rfl rfl) rfl rfl rfl ?_
          | refine LOps.valG (LVal.takeMap hD rfl rfl rfl rfl rfl rfl (by first | assumption | omega) rfl (fun _ _ => rfl)) rfl rfl rfl ?_
          | refine LOps.valG (LVal.dropMap hD rfl rfl rfl rfl rfl rfl (by first | assumption | omega) rfl (fun _ _ => rfl)) rfl rfl rfl ?_
          | refine LOps.valG (LVal.cutMap hD rfl rfl rfl rfl rfl rfl rfl (by first | assumption | omega) (by first | assumption | omega) rfl (fun _ _ => rfl)) rfl rfl rfl ?_
          | refine LOps.valG (LVal.move2 rfl rfl) rfl rfl rfl ?_
          | refine LOps.valG (LVal.assign2 rfl rfl) rfl rfl rfl ?_
          | refine LOps.valG (LVal.move (.inl rfl)) rfl rfl rfl ?_
          | refine LOps.valG (LVal.move (.inr rfl)) rfl rfl rfl ?_
          | (refine LOps.do0 (LDo.store hD rfl rfl (by first | assumption | exact box_new _ _ _ | exact box_set _ _ _ | (simp only [box_new, box_set, box_row, box_new_ne, box_set_ne, ne_eq, not_false_eq_true, *] <;> rfl)) rfl rfl rfl rfl) rfl rfl ?_; rintro _ _ ⟨rfl, rfl⟩))
        refine ⟨2 - (0 + 1), by omega, _, 0 + 1, b9, by omega, rfl, ⟨?_, ?_, ?_, ?_⟩, q5, q6, q7, holds.over ⟨rfl, rfl, rfl, rfl, rfl, trivial⟩⟩
        · rw [box_set_ne _ _ q5, box_set_ne _ _ q5]; exact p5
        · rw [box_set_ne _ _ q6, box_set_ne _ _ q6]; exact p6
        · rw [box_set_ne _ _ q7, box_set_ne _ _ q7]; exact p7
        · rw [box_set]; rfl
  · have H6 := hB.h6
    repeat (first
      | refine LOps.nil ?_
      | refine andThen_normal ?_
      | refine andThen_exit ?_
      | refine andThen_ret ?_
      | refine inBlock_normal ?_
      | refine inBlock_ret ?_
      | refine inBlock_here ?_
      | refine inBlock_out rfl ?_
      | refine LWp.seq ?_
      | refine LWp.region ?_
      | refine LWp.block ?_
      | refine LWp.exit ?_
      | refine LWp.ret ?_
      | refine LWp.skip ?_
      | refine LOps.out rfl rfl rfl ?_
      | refine LOps.valG (LVal.move1 rfl rfl) rfl rfl rfl ?_
      | refine LOps.valG (LVal.assign1 rfl rfl) rfl rfl rfl ?_
      | refine LOps.valG (LVal.len hD rfl rfl rfl rfl) rfl rfl rfl ?_
      | refine LOps.valG (LVal.lenStr hD rfl rfl rfl rfl) rfl rfl rfl ?_
      | refine LOps.valG (LVal.add64 rfl rfl rfl (by omega)) rfl rfl rfl ?_
      | refine LOps.valG (LVal.sub64 rfl rfl rfl (by omega)) rfl rfl rfl ?_
      | refine LOps.valG (LVal.addU64 rfl rfl rfl (by omega)) rfl rfl rfl ?_
      | refine LOps.valG (LVal.subU64 rfl rfl rfl (by omega)) rfl rfl rfl ?_
      | refine LOps.valG (LVal.mulU64 rfl rfl rfl (by omega)) rfl rfl rfl ?_
      | refine LOps.valG (LVal.remI rfl rfl rfl (by omega)) rfl rfl rfl ?_
      | refine LOps.valG (LVal.quoU64 rfl rfl rfl (by omega)) rfl rfl rfl ?_
      | refine LOps.valG (LVal.quo64 rfl rfl rfl (by omega)) rfl rfl rfl ?_
      | refine LOps.valG (LVal.mul64 rfl rfl rfl (by omega)) rfl rfl rfl ?_
      | refine LOps.valG (LVal.conv64 hD rfl rfl rfl rfl rfl (by omega)) rfl rfl rfl ?_
      | refine LOps.valG (LVal.convU64 hD rfl rfl rfl rfl rfl (by omega)) rfl rfl rfl ?_
      | refine LOps.valG (LVal.neqSame hD rfl rfl rfl) rfl rfl rfl ?_
      | refine LOps.valG (LVal.neqSameB hD rfl rfl rfl rfl rfl) rfl rfl rfl ?_
      | refine LOps.valG (LVal.binOp hD rfl rfl rfl rfl) rfl rfl rfl ?_
      | refine LOps.valG (LVal.unOp rfl rfl rfl) rfl rfl rfl ?_
      | refine LOps.valG (LVal.pick rfl rfl) rfl rfl rfl ?_
      | refine LOps.valG (LVal.extract rfl rfl rfl) rfl rfl rfl ?_
      | refine LOps.valG (LVal.convInt hD rfl rfl rfl rfl rfl) rfl rfl rfl ?_
      | refine LOps.valG (LVal.fieldAddr hD rfl rfl rfl rfl rfl rfl (by decide)) rfl rfl rfl ?_
      | refine LOps.valG (LVal.load hD rfl rfl (by first | assumption | exact box_new _ _ _ | exact box_set _ _ _ | (simp only [box_new, box_set, box_row, box_new_ne, box_set_ne, ne_eq, not_false_eq_true, *] <;> rfl)) rfl rfl) rfl rfl rfl ?_
      | refine LOps.valG (LVal.indexMap hD rfl rfl rfl rfl rfl rfl (by first | assumption | omega) rfl) rfl rfl rfl ?_
      | refine LOps.valG (LVal.loadRo hD rfl rfl rfl rfl) rfl rfl rfl ?_
      | refine LOps.valG (LVal.fieldAddrRo hD rfl rfl rfl rfl rfl rfl (by decide)) rfl rfl rfl ?_
      | refine LOps.valG (LVal.field hD rfl rfl rfl rfl rfl rfl rfl) rfl rfl rfl ?_
      | refine LOps.valG (LVal.buildSlice1 hD rfl rfl rfl rfl rfl rfl rfl rfl rfl rfl) rfl rfl rfl ?_
      | refine LOps.valG (LVal.build hD rfl rfl rfl rfl rfl rfl rfl) rfl rfl rfl ?_
      | refine LOps.valG (LVal.buildSlice hD rfl rfl rfl rfl rfl rfl rfl rfl rfl rfl) rfl rfl rfl ?_
      | refine LOps.valG (LVal.takeMap hD rfl rfl rfl rfl rfl rfl (by first | assumption | omega) rfl (fun _ _ => rfl)) rfl rfl rfl ?_
      | refine LOps.valG (LVal.dropMap hD rfl rfl rfl rfl rfl rfl (by first | assumption | omega) rfl (fun _ _ => rfl)) rfl rfl rfl ?_
      | refine LOps.valG (LVal.cutMap hD rfl rfl rfl rfl rfl rfl rfl (by first | assumption | omega) (by first | assumption | omega) rfl (fun _ _ => rfl)) rfl rfl rfl ?_
      | refine LOps.valG (LVal.move2 rfl rfl) rfl rfl rfl ?_
      | refine LOps.valG (LVal.assign2 rfl rfl) rfl rfl rfl ?_
      | refine LOps.valG (LVal.move (.inl rfl)) rfl rfl rfl ?_
      | refine LOps.valG (LVal.move (.inr rfl)) rfl rfl rfl ?_
      | (refine LOps.do0 (LDo.store hD rfl rfl (by first | assumption | exact box_new _ _ _ | exact box_set _ _ _ | (simp only [box_new, box_set, box_row, box_new_ne, box_set_ne, ne_eq, not_false_eq_true, *] <;> rfl)) rfl rfl rfl rfl) rfl rfl ?_; rintro _ _ ⟨rfl, rfl⟩))
    exact ⟨_, LRes.cell rfl (.cell rfl (box_set _ _ _) (hP ▸ tok4) rfl), rfl⟩
end Go.Proofs.Ytffeegpjnibdnaa.LF
