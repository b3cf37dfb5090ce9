/- The document's words (marshallingref13), over the frame: has, Of. -/
import Derived.Test.YtffeegpjnibdnaaLFm
import Derived.Test.YtffeegpjnibdnaaLFtab
import Derived.Test.YtffeegpjnibdnaaPermN
set_option linter.unusedVariables false
set_option linter.unusedSimpArgs false
namespace Go.Proofs.Ytffeegpjnibdnaa.LF
open Go.RowKit
abbrev iv (x : Int) : LV := .v (.int .i64 x)






set_option maxHeartbeats 400000 in
theorem has_L {G : Ctx} (hP : G.P = Try.prog) (xs : List Int) (n : Int) (hx : xs.length ≤ 1000000) (S : LS) :
    LCalls G 24 [.one (.sl .sh (xs.map fun x => [iv x])), .one (iv n)] (fun r S' => r = .one (.v (.bool (decide (n ∈ xs)))) ∧ S.le S') S := by
  have hD : TabOK G.P D := by rw [hP]; exact hD0
  refine LCalls.enter (fn := Try.f24) (by rw [hP]; exact Try.func24) rfl rfl ?_
  repeat (first
    | refine LOps.nil ?_
    | refine andThen_normal ?_
    | refine andThen_exit ?_
    | refine andThen_ret ?_
    | refine inBlock_normal ?_
    | refine inBlock_ret ?_
    | refine inBlock_here ?_
    | refine inBlock_out rfl ?_
    | refine LWp.seq ?_
    | refine LWp.region ?_
    | refine LWp.block ?_
    | refine LWp.exit ?_
    | refine LWp.ret ?_
    | refine LWp.skip ?_
    | refine LOps.val (LVal.move1 rfl rfl) rfl rfl rfl ?_
    | refine LOps.val (LVal.assign1 rfl rfl) rfl rfl rfl ?_
    | refine LOps.val (LVal.len hD rfl rfl rfl rfl) rfl rfl rfl ?_
    | refine LOps.val (LVal.lenStr hD rfl rfl rfl rfl) rfl rfl rfl ?_
    | refine LOps.val (LVal.add64 rfl rfl rfl (by omega)) rfl rfl rfl ?_
    | refine LOps.val (LVal.sub64 rfl rfl rfl (by omega)) rfl rfl rfl ?_
    | refine LOps.val (LVal.addU64 rfl rfl rfl (by omega)) rfl rfl rfl ?_
    | refine LOps.val (LVal.subU64 rfl rfl rfl (by omega)) rfl rfl rfl ?_
    | refine LOps.val (LVal.mulU64 rfl rfl rfl (by omega)) rfl rfl rfl ?_
    | refine LOps.val (LVal.remI rfl rfl rfl (by omega)) rfl rfl rfl ?_
    | refine LOps.val (LVal.quoU64 rfl rfl rfl (by omega)) rfl rfl rfl ?_
    | refine LOps.val (LVal.quo64 rfl rfl rfl (by omega)) rfl rfl rfl ?_
    | refine LOps.val (LVal.mul64 rfl rfl rfl (by omega)) rfl rfl rfl ?_
    | refine LOps.val (LVal.conv64 hD rfl rfl rfl rfl rfl (by omega)) rfl rfl rfl ?_
    | refine LOps.val (LVal.convU64 hD rfl rfl rfl rfl rfl (by omega)) rfl rfl rfl ?_
    | refine LOps.val (LVal.neqSame hD rfl rfl rfl) rfl rfl rfl ?_
    | refine LOps.val (LVal.neqSameB hD rfl rfl rfl rfl rfl) rfl rfl rfl ?_
    | refine LOps.val (LVal.binOp hD rfl rfl rfl rfl) rfl rfl rfl ?_
    | refine LOps.val (LVal.unOp rfl rfl rfl) rfl rfl rfl ?_
    | refine LOps.val (LVal.pick rfl rfl) rfl rfl rfl ?_
    | refine LOps.val (LVal.extract rfl rfl rfl) rfl rfl rfl ?_
    | refine LOps.val (LVal.convInt hD rfl rfl rfl rfl rfl) rfl rfl rfl ?_
    | refine LOps.val (LVal.fieldAddr hD rfl rfl rfl rfl rfl rfl (by decide)) rfl rfl rfl ?_
    | refine LOps.val (LVal.load hD rfl rfl (by first | assumption | exact box_new _ _ _ | exact box_set _ _ _ | (simp only [box_new, box_set, box_row, box_new_ne, box_set_ne, ne_eq, not_false_eq_true, *]; done) | (simp only [box_new, box_set, box_row, box_new_ne, box_set_ne, ne_eq, not_false_eq_true, *]; rfl)) rfl rfl) rfl rfl rfl ?_
    | refine LOps.val (LVal.indexMap hD rfl rfl rfl rfl rfl rfl (by first | assumption | omega) rfl) rfl rfl rfl ?_
    | refine LOps.val (LVal.loadRo hD rfl rfl rfl rfl) rfl rfl rfl ?_
    | refine LOps.val (LVal.fieldAddrRo hD rfl rfl rfl rfl rfl rfl (by decide)) rfl rfl rfl ?_
    | refine LOps.val (LVal.field hD rfl rfl rfl rfl rfl rfl rfl) rfl rfl rfl ?_
    | refine LOps.val (LVal.buildSlice1 hD rfl rfl rfl rfl rfl rfl rfl rfl rfl rfl) rfl rfl rfl ?_
    | refine LOps.val (LVal.build hD rfl rfl rfl rfl rfl rfl rfl) rfl rfl rfl ?_
    | refine LOps.val (LVal.buildSlice hD rfl rfl rfl rfl rfl rfl rfl rfl rfl rfl) rfl rfl rfl ?_
    | refine LOps.val (LVal.takeMap hD rfl rfl rfl rfl rfl rfl (by first | assumption | omega) rfl (fun _ _ => rfl)) rfl rfl rfl ?_
    | refine LOps.val (LVal.dropMap hD rfl rfl rfl rfl rfl rfl (by first | assumption | omega) rfl (fun _ _ => rfl)) rfl rfl rfl ?_
    | refine LOps.val (LVal.cutMap hD rfl rfl rfl rfl rfl rfl rfl (by first | assumption | omega) (by first | assumption | omega) rfl (fun _ _ => rfl)) rfl rfl rfl ?_
    | refine LOps.val (LVal.move2 rfl rfl) rfl rfl rfl ?_
    | refine LOps.val (LVal.assign2 rfl rfl) rfl rfl rfl ?_
    | refine LOps.val (LVal.move (.inl rfl)) rfl rfl rfl ?_
    | refine LOps.val (LVal.move (.inr rfl)) rfl rfl rfl ?_
    | refine LOps.out rfl rfl rfl ?_
    | refine LOps.valG (LVal.move1 rfl rfl) rfl rfl rfl ?_
    | refine LOps.valG (LVal.assign1 rfl rfl) rfl rfl rfl ?_
    | refine LOps.valG (LVal.len hD rfl rfl rfl rfl) rfl rfl rfl ?_
    | refine LOps.valG (LVal.lenStr hD rfl rfl rfl rfl) rfl rfl rfl ?_
    | refine LOps.valG (LVal.add64 rfl rfl rfl (by omega)) rfl rfl rfl ?_
    | refine LOps.valG (LVal.sub64 rfl rfl rfl (by omega)) rfl rfl rfl ?_
    | refine LOps.valG (LVal.addU64 rfl rfl rfl (by omega)) rfl rfl rfl ?_
    | refine LOps.valG (LVal.subU64 rfl rfl rfl (by omega)) rfl rfl rfl ?_
    | refine LOps.valG (LVal.mulU64 rfl rfl rfl (by omega)) rfl rfl rfl ?_
    | refine LOps.valG (LVal.remI rfl rfl rfl (by omega)) rfl rfl rfl ?_
    | refine LOps.valG (LVal.quoU64 rfl rfl rfl (by omega)) rfl rfl rfl ?_
    | refine LOps.valG (LVal.quo64 rfl rfl rfl (by omega)) rfl rfl rfl ?_
    | refine LOps.valG (LVal.mul64 rfl rfl rfl (by omega)) rfl rfl rfl ?_
    | refine LOps.valG (LVal.conv64 hD rfl rfl rfl rfl rfl (by omega)) rfl rfl rfl ?_
    | refine LOps.valG (LVal.convU64 hD rfl rfl rfl rfl rfl (by omega)) rfl rfl rfl ?_
    | refine LOps.valG (LVal.neqSame hD rfl rfl rfl) rfl rfl rfl ?_
    | refine LOps.valG (LVal.neqSameB hD rfl rfl rfl rfl rfl) rfl rfl rfl ?_
    | refine LOps.valG (LVal.binOp hD rfl rfl rfl rfl) rfl rfl rfl ?_
    | refine LOps.valG (LVal.unOp rfl rfl rfl) rfl rfl rfl ?_
    | refine LOps.valG (LVal.pick rfl rfl) rfl rfl rfl ?_
    | refine LOps.valG (LVal.extract rfl rfl rfl) rfl rfl rfl ?_
    | refine LOps.valG (LVal.convInt hD rfl rfl rfl rfl rfl) rfl rfl rfl ?_
    | refine LOps.valG (LVal.fieldAddr hD rfl rfl rfl rfl rfl rfl (by decide)) rfl rfl rfl ?_
    | refine LOps.valG (LVal.load hD rfl rfl (by first | assumption | exact box_new _ _ _ | exact box_set _ _ _ | (simp only [box_new, box_set, box_row, box_new_ne, box_set_ne, ne_eq, not_false_eq_true, *]; done) | (simp only [box_new, box_set, box_row, box_new_ne, box_set_ne, ne_eq, not_false_eq_true, *]; rfl)) rfl rfl) rfl rfl rfl ?_
    | refine LOps.valG (LVal.indexMap hD rfl rfl rfl rfl rfl rfl (by first | assumption | omega) rfl) rfl rfl rfl ?_
    | refine LOps.valG (LVal.loadRo hD rfl rfl rfl rfl) rfl rfl rfl ?_
    | refine LOps.valG (LVal.fieldAddrRo hD rfl rfl rfl rfl rfl rfl (by decide)) rfl rfl rfl ?_
    | refine LOps.valG (LVal.field hD rfl rfl rfl rfl rfl rfl rfl) rfl rfl rfl ?_
    | refine LOps.valG (LVal.buildSlice1 hD rfl rfl rfl rfl rfl rfl rfl rfl rfl rfl) rfl rfl rfl ?_
    | refine LOps.valG (LVal.build hD rfl rfl rfl rfl rfl rfl rfl) rfl rfl rfl ?_
    | refine LOps.valG (LVal.buildSlice hD rfl rfl rfl rfl rfl rfl rfl rfl rfl rfl) rfl rfl rfl ?_
    | refine LOps.valG (LVal.takeMap hD rfl rfl rfl rfl rfl rfl (by first | assumption | omega) rfl (fun _ _ => rfl)) rfl rfl rfl ?_
    | refine LOps.valG (LVal.dropMap hD rfl rfl rfl rfl rfl rfl (by first | assumption | omega) rfl (fun _ _ => rfl)) rfl rfl rfl ?_
    | refine LOps.valG (LVal.cutMap hD rfl rfl rfl rfl rfl rfl rfl (by first | assumption | omega) (by first | assumption | omega) rfl (fun _ _ => rfl)) rfl rfl rfl ?_
    | refine LOps.valG (LVal.move2 rfl rfl) rfl rfl rfl ?_
    | refine LOps.valG (LVal.assign2 rfl rfl) rfl rfl rfl ?_
    | refine LOps.valG (LVal.move (.inl rfl)) rfl rfl rfl ?_
    | refine LOps.valG (LVal.move (.inr rfl)) rfl rfl rfl ?_
    | (refine LOps.do0 (LDo.store hD rfl rfl (by first | assumption | exact box_new _ _ _ | exact box_set _ _ _ | (simp only [box_new, box_set, box_row, box_new_ne, box_set_ne, ne_eq, not_false_eq_true, *]; done) | (simp only [box_new, box_set, box_row, box_new_ne, box_set_ne, ne_eq, not_false_eq_true, *]; rfl)) rfl rfl rfl rfl) rfl rfl ?_; rintro _ _ ⟨rfl, rfl⟩))
  refine LWp.loop (fun k T S' => S' = S ∧ ∃ T' j, j ≤ xs.length ∧ k = xs.length - j ∧ n ∉ xs.take j ∧ T = over T' [(0, .one (.sl .sh (xs.map fun x => [iv x]))), (1, .one (iv n)), (5, .one (iv j))]) xs.length ?_ ?_
  · exact ⟨rfl, _, 0, by omega, by omega, by simp, holds.over ⟨rfl, rfl, rfl, trivial⟩⟩
  rintro k T S' ⟨rfl, T', j, hj, rfl, hno, rfl⟩
  repeat (first
    | refine LOps.nil ?_
    | refine andThen_normal ?_
    | refine andThen_exit ?_
    | refine andThen_ret ?_
    | refine inBlock_normal ?_
    | refine inBlock_ret ?_
    | refine inBlock_here ?_
    | refine inBlock_out rfl ?_
    | refine LWp.seq ?_
    | refine LWp.region ?_
    | refine LWp.block ?_
    | refine LWp.exit ?_
    | refine LWp.ret ?_
    | refine LWp.skip ?_
    | refine LOps.val (LVal.move1 rfl rfl) rfl rfl rfl ?_
    | refine LOps.val (LVal.assign1 rfl rfl) rfl rfl rfl ?_
    | refine LOps.val (LVal.len hD rfl rfl rfl rfl) rfl rfl rfl ?_
    | refine LOps.val (LVal.lenStr hD rfl rfl rfl rfl) rfl rfl rfl ?_
    | refine LOps.val (LVal.add64 rfl rfl rfl (by omega)) rfl rfl rfl ?_
    | refine LOps.val (LVal.sub64 rfl rfl rfl (by omega)) rfl rfl rfl ?_
    | refine LOps.val (LVal.addU64 rfl rfl rfl (by omega)) rfl rfl rfl ?_
    | refine LOps.val (LVal.subU64 rfl rfl rfl (by omega)) rfl rfl rfl ?_
    | refine LOps.val (LVal.mulU64 rfl rfl rfl (by omega)) rfl rfl rfl ?_
    | refine LOps.val (LVal.remI rfl rfl rfl (by omega)) rfl rfl rfl ?_
    | refine LOps.val (LVal.quoU64 rfl rfl rfl (by omega)) rfl rfl rfl ?_
    | refine LOps.val (LVal.quo64 rfl rfl rfl (by omega)) rfl rfl rfl ?_
    | refine LOps.val (LVal.mul64 rfl rfl rfl (by omega)) rfl rfl rfl ?_
    | refine LOps.val (LVal.conv64 hD rfl rfl rfl rfl rfl (by omega)) rfl rfl rfl ?_
    | refine LOps.val (LVal.convU64 hD rfl rfl rfl rfl rfl (by omega)) rfl rfl rfl ?_
    | refine LOps.val (LVal.neqSame hD rfl rfl rfl) rfl rfl rfl ?_
    | refine LOps.val (LVal.neqSameB hD rfl rfl rfl rfl rfl) rfl rfl rfl ?_
    | refine LOps.val (LVal.binOp hD rfl rfl rfl rfl) rfl rfl rfl ?_
    | refine LOps.val (LVal.unOp rfl rfl rfl) rfl rfl rfl ?_
    | refine LOps.val (LVal.pick rfl rfl) rfl rfl rfl ?_
    | refine LOps.val (LVal.extract rfl rfl rfl) rfl rfl rfl ?_
    | refine LOps.val (LVal.convInt hD rfl rfl rfl rfl rfl) rfl rfl rfl ?_
    | refine LOps.val (LVal.fieldAddr hD rfl rfl rfl rfl rfl rfl (by decide)) rfl rfl rfl ?_
    | refine LOps.val (LVal.load hD rfl rfl (by first | assumption | exact box_new _ _ _ | exact box_set _ _ _ | (simp only [box_new, box_set, box_row, box_new_ne, box_set_ne, ne_eq, not_false_eq_true, *]; done) | (simp only [box_new, box_set, box_row, box_new_ne, box_set_ne, ne_eq, not_false_eq_true, *]; rfl)) rfl rfl) rfl rfl rfl ?_
    | refine LOps.val (LVal.indexMap hD rfl rfl rfl rfl rfl rfl (by first | assumption | omega) rfl) rfl rfl rfl ?_
    | refine LOps.val (LVal.loadRo hD rfl rfl rfl rfl) rfl rfl rfl ?_
    | refine LOps.val (LVal.fieldAddrRo hD rfl rfl rfl rfl rfl rfl (by decide)) rfl rfl rfl ?_
    | refine LOps.val (LVal.field hD rfl rfl rfl rfl rfl rfl rfl) rfl rfl rfl ?_
    | refine LOps.val (LVal.buildSlice1 hD rfl rfl rfl rfl rfl rfl rfl rfl rfl rfl) rfl rfl rfl ?_
    | refine LOps.val (LVal.build hD rfl rfl rfl rfl rfl rfl rfl) rfl rfl rfl ?_
    | refine LOps.val (LVal.buildSlice hD rfl rfl rfl rfl rfl rfl rfl rfl rfl rfl) rfl rfl rfl ?_
    | refine LOps.val (LVal.takeMap hD rfl rfl rfl rfl rfl rfl (by first | assumption | omega) rfl (fun _ _ => rfl)) rfl rfl rfl ?_
    | refine LOps.val (LVal.dropMap hD rfl rfl rfl rfl rfl rfl (by first | assumption | omega) rfl (fun _ _ => rfl)) rfl rfl rfl ?_
    | refine LOps.val (LVal.cutMap hD rfl rfl rfl rfl rfl rfl rfl (by first | assumption | omega) (by first | assumption | omega) rfl (fun _ _ => rfl)) rfl rfl rfl ?_
    | refine LOps.val (LVal.move2 rfl rfl) rfl rfl rfl ?_
    | refine LOps.val (LVal.assign2 rfl rfl) rfl rfl rfl ?_
    | refine LOps.val (LVal.move (.inl rfl)) rfl rfl rfl ?_
    | refine LOps.val (LVal.move (.inr rfl)) rfl rfl rfl ?_
    | refine LOps.out rfl rfl rfl ?_
    | refine LOps.valG (LVal.move1 rfl rfl) rfl rfl rfl ?_
    | refine LOps.valG (LVal.assign1 rfl rfl) rfl rfl rfl ?_
    | refine LOps.valG (LVal.len hD rfl rfl rfl rfl) rfl rfl rfl ?_
    | refine LOps.valG (LVal.lenStr hD rfl rfl rfl rfl) rfl rfl rfl ?_
    | refine LOps.valG (LVal.add64 rfl rfl rfl (by omega)) rfl rfl rfl ?_
    | refine LOps.valG (LVal.sub64 rfl rfl rfl (by omega)) rfl rfl rfl ?_
    | refine LOps.valG (LVal.addU64 rfl rfl rfl (by omega)) rfl rfl rfl ?_
    | refine LOps.valG (LVal.subU64 rfl rfl rfl (by omega)) rfl rfl rfl ?_
    | refine LOps.valG (LVal.mulU64 rfl rfl rfl (by omega)) rfl rfl rfl ?_
    | refine LOps.valG (LVal.remI rfl rfl rfl (by omega)) rfl rfl rfl ?_
    | refine LOps.valG (LVal.quoU64 rfl rfl rfl (by omega)) rfl rfl rfl ?_
    | refine LOps.valG (LVal.quo64 rfl rfl rfl (by omega)) rfl rfl rfl ?_
    | refine LOps.valG (LVal.mul64 rfl rfl rfl (by omega)) rfl rfl rfl ?_
    | refine LOps.valG (LVal.conv64 hD rfl rfl rfl rfl rfl (by omega)) rfl rfl rfl ?_
    | refine LOps.valG (LVal.convU64 hD rfl rfl rfl rfl rfl (by omega)) rfl rfl rfl ?_
    | refine LOps.valG (LVal.neqSame hD rfl rfl rfl) rfl rfl rfl ?_
    | refine LOps.valG (LVal.neqSameB hD rfl rfl rfl rfl rfl) rfl rfl rfl ?_
    | refine LOps.valG (LVal.binOp hD rfl rfl rfl rfl) rfl rfl rfl ?_
    | refine LOps.valG (LVal.unOp rfl rfl rfl) rfl rfl rfl ?_
    | refine LOps.valG (LVal.pick rfl rfl) rfl rfl rfl ?_
    | refine LOps.valG (LVal.extract rfl rfl rfl) rfl rfl rfl ?_
    | refine LOps.valG (LVal.convInt hD rfl rfl rfl rfl rfl) rfl rfl rfl ?_
    | refine LOps.valG (LVal.fieldAddr hD rfl rfl rfl rfl rfl rfl (by decide)) rfl rfl rfl ?_
    | refine LOps.valG (LVal.load hD rfl rfl (by first | assumption | exact box_new _ _ _ | exact box_set _ _ _ | (simp only [box_new, box_set, box_row, box_new_ne, box_set_ne, ne_eq, not_false_eq_true, *]; done) | (simp only [box_new, box_set, box_row, box_new_ne, box_set_ne, ne_eq, not_false_eq_true, *]; rfl)) rfl rfl) rfl rfl rfl ?_
    | refine LOps.valG (LVal.indexMap hD rfl rfl rfl rfl rfl rfl (by first | assumption | omega) rfl) rfl rfl rfl ?_
    | refine LOps.valG (LVal.loadRo hD rfl rfl rfl rfl) rfl rfl rfl ?_
    | refine LOps.valG (LVal.fieldAddrRo hD rfl rfl rfl rfl rfl rfl (by decide)) rfl rfl rfl ?_
    | refine LOps.valG (LVal.field hD rfl rfl rfl rfl rfl rfl rfl) rfl rfl rfl ?_
    | refine LOps.valG (LVal.buildSlice1 hD rfl rfl rfl rfl rfl rfl rfl rfl rfl rfl) rfl rfl rfl ?_
    | refine LOps.valG (LVal.build hD rfl rfl rfl rfl rfl rfl rfl) rfl rfl rfl ?_
    | refine LOps.valG (LVal.buildSlice hD rfl rfl rfl rfl rfl rfl rfl rfl rfl rfl) rfl rfl rfl ?_
    | refine LOps.valG (LVal.takeMap hD rfl rfl rfl rfl rfl rfl (by first | assumption | omega) rfl (fun _ _ => rfl)) rfl rfl rfl ?_
    | refine LOps.valG (LVal.dropMap hD rfl rfl rfl rfl rfl rfl (by first | assumption | omega) rfl (fun _ _ => rfl)) rfl rfl rfl ?_
    | refine LOps.valG (LVal.cutMap hD rfl rfl rfl rfl rfl rfl rfl (by first | assumption | omega) (by first | assumption | omega) rfl (fun _ _ => rfl)) rfl rfl rfl ?_
    | refine LOps.valG (LVal.move2 rfl rfl) rfl rfl rfl ?_
    | refine LOps.valG (LVal.assign2 rfl rfl) rfl rfl rfl ?_
    | refine LOps.valG (LVal.move (.inl rfl)) rfl rfl rfl ?_
    | refine LOps.valG (LVal.move (.inr rfl)) rfl rfl rfl ?_
    | (refine LOps.do0 (LDo.store hD rfl rfl (by first | assumption | exact box_new _ _ _ | exact box_set _ _ _ | (simp only [box_new, box_set, box_row, box_new_ne, box_set_ne, ne_eq, not_false_eq_true, *]; done) | (simp only [box_new, box_set, box_row, box_new_ne, box_set_ne, ne_eq, not_false_eq_true, *]; rfl)) rfl rfl rfl rfl) rfl rfl ?_; rintro _ _ ⟨rfl, rfl⟩))
  refine LWp.cond rfl (fun h => ?_) (fun h => ?_)
  · have hlt : j < xs.length := by simpa using h
    repeat (first
      | refine LOps.nil ?_
      | refine andThen_normal ?_
      | refine andThen_exit ?_
      | refine andThen_ret ?_
      | refine inBlock_normal ?_
      | refine inBlock_ret ?_
      | refine inBlock_here ?_
      | refine inBlock_out rfl ?_
      | refine LWp.seq ?_
      | refine LWp.region ?_
      | refine LWp.block ?_
      | refine LWp.exit ?_
      | refine LWp.ret ?_
      | refine LWp.skip ?_
      | refine LOps.val (LVal.move1 rfl rfl) rfl rfl rfl ?_
      | refine LOps.val (LVal.assign1 rfl rfl) rfl rfl rfl ?_
      | refine LOps.val (LVal.len hD rfl rfl rfl rfl) rfl rfl rfl ?_
      | refine LOps.val (LVal.lenStr hD rfl rfl rfl rfl) rfl rfl rfl ?_
      | refine LOps.val (LVal.add64 rfl rfl rfl (by omega)) rfl rfl rfl ?_
      | refine LOps.val (LVal.sub64 rfl rfl rfl (by omega)) rfl rfl rfl ?_
      | refine LOps.val (LVal.addU64 rfl rfl rfl (by omega)) rfl rfl rfl ?_
      | refine LOps.val (LVal.subU64 rfl rfl rfl (by omega)) rfl rfl rfl ?_
      | refine LOps.val (LVal.mulU64 rfl rfl rfl (by omega)) rfl rfl rfl ?_
      | refine LOps.val (LVal.remI rfl rfl rfl (by omega)) rfl rfl rfl ?_
      | refine LOps.val (LVal.quoU64 rfl rfl rfl (by omega)) rfl rfl rfl ?_
      | refine LOps.val (LVal.quo64 rfl rfl rfl (by omega)) rfl rfl rfl ?_
      | refine LOps.val (LVal.mul64 rfl rfl rfl (by omega)) rfl rfl rfl ?_
      | refine LOps.val (LVal.conv64 hD rfl rfl rfl rfl rfl (by omega)) rfl rfl rfl ?_
      | refine LOps.val (LVal.convU64 hD rfl rfl rfl rfl rfl (by omega)) rfl rfl rfl ?_
      | refine LOps.val (LVal.neqSame hD rfl rfl rfl) rfl rfl rfl ?_
      | refine LOps.val (LVal.neqSameB hD rfl rfl rfl rfl rfl) rfl rfl rfl ?_
      | refine LOps.val (LVal.binOp hD rfl rfl rfl rfl) rfl rfl rfl ?_
      | refine LOps.val (LVal.unOp rfl rfl rfl) rfl rfl rfl ?_
      | refine LOps.val (LVal.pick rfl rfl) rfl rfl rfl ?_
      | refine LOps.val (LVal.extract rfl rfl rfl) rfl rfl rfl ?_
      | refine LOps.val (LVal.convInt hD rfl rfl rfl rfl rfl) rfl rfl rfl ?_
      | refine LOps.val (LVal.fieldAddr hD rfl rfl rfl rfl rfl rfl (by decide)) rfl rfl rfl ?_
      | refine LOps.val (LVal.load hD rfl rfl (by first | assumption | exact box_new _ _ _ | exact box_set _ _ _ | (simp only [box_new, box_set, box_row, box_new_ne, box_set_ne, ne_eq, not_false_eq_true, *]; done) | (simp only [box_new, box_set, box_row, box_new_ne, box_set_ne, ne_eq, not_false_eq_true, *]; rfl)) rfl rfl) rfl rfl rfl ?_
      | refine LOps.val (LVal.indexMap hD rfl rfl rfl rfl rfl rfl (by first | assumption | omega) rfl) rfl rfl rfl ?_
      | refine LOps.val (LVal.loadRo hD rfl rfl rfl rfl) rfl rfl rfl ?_
      | refine LOps.val (LVal.fieldAddrRo hD rfl rfl rfl rfl rfl rfl (by decide)) rfl rfl rfl ?_
      | refine LOps.val (LVal.field hD rfl rfl rfl rfl rfl rfl rfl) rfl rfl rfl ?_
      | refine LOps.val (LVal.buildSlice1 hD rfl rfl rfl rfl rfl rfl rfl rfl rfl rfl) rfl rfl rfl ?_
      | refine LOps.val (LVal.build hD rfl rfl rfl rfl rfl rfl rfl) rfl rfl rfl ?_
      | refine LOps.val (LVal.buildSlice hD rfl rfl rfl rfl rfl rfl rfl rfl rfl rfl) rfl rfl rfl ?_
      | refine LOps.val (LVal.takeMap hD rfl rfl rfl rfl rfl rfl (by first | assumption | omega) rfl (fun _ _ => rfl)) rfl rfl rfl ?_
      | refine LOps.val (LVal.dropMap hD rfl rfl rfl rfl rfl rfl (by first | assumption | omega) rfl (fun _ _ => rfl)) rfl rfl rfl ?_
      | refine LOps.val (LVal.cutMap hD rfl rfl rfl rfl rfl rfl rfl (by first | assumption | omega) (by first | assumption | omega) rfl (fun _ _ => rfl)) rfl rfl rfl ?_
      | refine LOps.val (LVal.move2 rfl rfl) rfl rfl rfl ?_
      | refine LOps.val (LVal.assign2 rfl rfl) rfl rfl rfl ?_
      | refine LOps.val (LVal.move (.inl rfl)) rfl rfl rfl ?_
      | refine LOps.val (LVal.move (.inr rfl)) rfl rfl rfl ?_
      | refine LOps.out rfl rfl rfl ?_
      | refine LOps.valG (LVal.move1 rfl rfl) rfl rfl rfl ?_
      | refine LOps.valG (LVal.assign1 rfl rfl) rfl rfl rfl ?_
      | refine LOps.valG (LVal.len hD rfl rfl rfl rfl) rfl rfl rfl ?_
      | refine LOps.valG (LVal.lenStr hD rfl rfl rfl rfl) rfl rfl rfl ?_
      | refine LOps.valG (LVal.add64 rfl rfl rfl (by omega)) rfl rfl rfl ?_
      | refine LOps.valG (LVal.sub64 rfl rfl rfl (by omega)) rfl rfl rfl ?_
      | refine LOps.valG (LVal.addU64 rfl rfl rfl (by omega)) rfl rfl rfl ?_
      | refine LOps.valG (LVal.subU64 rfl rfl rfl (by omega)) rfl rfl rfl ?_
      | refine LOps.valG (LVal.mulU64 rfl rfl rfl (by omega)) rfl rfl rfl ?_
      | refine LOps.valG (LVal.remI rfl rfl rfl (by omega)) rfl rfl rfl ?_
      | refine LOps.valG (LVal.quoU64 rfl rfl rfl (by omega)) rfl rfl rfl ?_
      | refine LOps.valG (LVal.quo64 rfl rfl rfl (by omega)) rfl rfl rfl ?_
      | refine LOps.valG (LVal.mul64 rfl rfl rfl (by omega)) rfl rfl rfl ?_
      | refine LOps.valG (LVal.conv64 hD rfl rfl rfl rfl rfl (by omega)) rfl rfl rfl ?_
      | refine LOps.valG (LVal.convU64 hD rfl rfl rfl rfl rfl (by omega)) rfl rfl rfl ?_
      | refine LOps.valG (LVal.neqSame hD rfl rfl rfl) rfl rfl rfl ?_
      | refine LOps.valG (LVal.neqSameB hD rfl rfl rfl rfl rfl) rfl rfl rfl ?_
      | refine LOps.valG (LVal.binOp hD rfl rfl rfl rfl) rfl rfl rfl ?_
      | refine LOps.valG (LVal.unOp rfl rfl rfl) rfl rfl rfl ?_
      | refine LOps.valG (LVal.pick rfl rfl) rfl rfl rfl ?_
      | refine LOps.valG (LVal.extract rfl rfl rfl) rfl rfl rfl ?_
      | refine LOps.valG (LVal.convInt hD rfl rfl rfl rfl rfl) rfl rfl rfl ?_
      | refine LOps.valG (LVal.fieldAddr hD rfl rfl rfl rfl rfl rfl (by decide)) rfl rfl rfl ?_
      | refine LOps.valG (LVal.load hD rfl rfl (by first | assumption | exact box_new _ _ _ | exact box_set _ _ _ | (simp only [box_new, box_set, box_row, box_new_ne, box_set_ne, ne_eq, not_false_eq_true, *]; done) | (simp only [box_new, box_set, box_row, box_new_ne, box_set_ne, ne_eq, not_false_eq_true, *]; rfl)) rfl rfl) rfl rfl rfl ?_
      | refine LOps.valG (LVal.indexMap hD rfl rfl rfl rfl rfl rfl (by first | assumption | omega) rfl) rfl rfl rfl ?_
      | refine LOps.valG (LVal.loadRo hD rfl rfl rfl rfl) rfl rfl rfl ?_
      | refine LOps.valG (LVal.fieldAddrRo hD rfl rfl rfl rfl rfl rfl (by decide)) rfl rfl rfl ?_
      | refine LOps.valG (LVal.field hD rfl rfl rfl rfl rfl rfl rfl) rfl rfl rfl ?_
      | refine LOps.valG (LVal.buildSlice1 hD rfl rfl rfl rfl rfl rfl rfl rfl rfl rfl) rfl rfl rfl ?_
      | refine LOps.valG (LVal.build hD rfl rfl rfl rfl rfl rfl rfl) rfl rfl rfl ?_
      | refine LOps.valG (LVal.buildSlice hD rfl rfl rfl rfl rfl rfl rfl rfl rfl rfl) rfl rfl rfl ?_
      | refine LOps.valG (LVal.takeMap hD rfl rfl rfl rfl rfl rfl (by first | assumption | omega) rfl (fun _ _ => rfl)) rfl rfl rfl ?_
      | refine LOps.valG (LVal.dropMap hD rfl rfl rfl rfl rfl rfl (by first | assumption | omega) rfl (fun _ _ => rfl)) rfl rfl rfl ?_
      | refine LOps.valG (LVal.cutMap hD rfl rfl rfl rfl rfl rfl rfl (by first | assumption | omega) (by first | assumption | omega) rfl (fun _ _ => rfl)) rfl rfl rfl ?_
      | refine LOps.valG (LVal.move2 rfl rfl) rfl rfl rfl ?_
      | refine LOps.valG (LVal.assign2 rfl rfl) rfl rfl rfl ?_
      | refine LOps.valG (LVal.move (.inl rfl)) rfl rfl rfl ?_
      | refine LOps.valG (LVal.move (.inr rfl)) rfl rfl rfl ?_
      | (refine LOps.do0 (LDo.store hD rfl rfl (by first | assumption | exact box_new _ _ _ | exact box_set _ _ _ | (simp only [box_new, box_set, box_row, box_new_ne, box_set_ne, ne_eq, not_false_eq_true, *]; done) | (simp only [box_new, box_set, box_row, box_new_ne, box_set_ne, ne_eq, not_false_eq_true, *]; rfl)) rfl rfl rfl rfl) rfl rfl ?_; rintro _ _ ⟨rfl, rfl⟩))
    refine LWp.cond rfl (fun h => ?_) (fun h => ?_)
    · repeat (first
        | refine LOps.nil ?_
        | refine andThen_normal ?_
        | refine andThen_exit ?_
        | refine andThen_ret ?_
        | refine inBlock_normal ?_
        | refine inBlock_ret ?_
        | refine inBlock_here ?_
        | refine inBlock_out rfl ?_
        | refine LWp.seq ?_
        | refine LWp.region ?_
        | refine LWp.block ?_
        | refine LWp.exit ?_
        | refine LWp.ret ?_
        | refine LWp.skip ?_
        | refine LOps.val (LVal.move1 rfl rfl) rfl rfl rfl ?_
        | refine LOps.val (LVal.assign1 rfl rfl) rfl rfl rfl ?_
        | refine LOps.val (LVal.len hD rfl rfl rfl rfl) rfl rfl rfl ?_
        | refine LOps.val (LVal.lenStr hD rfl rfl rfl rfl) rfl rfl rfl ?_
        | refine LOps.val (LVal.add64 rfl rfl rfl (by omega)) rfl rfl rfl ?_
        | refine LOps.val (LVal.sub64 rfl rfl rfl (by omega)) rfl rfl rfl ?_
        | refine LOps.val (LVal.addU64 rfl rfl rfl (by omega)) rfl rfl rfl ?_
        | refine LOps.val (LVal.subU64 rfl rfl rfl (by omega)) rfl rfl rfl ?_
        | refine LOps.val (LVal.mulU64 rfl rfl rfl (by omega)) rfl rfl rfl ?_
        | refine LOps.val (LVal.remI rfl rfl rfl (by omega)) rfl rfl rfl ?_
        | refine LOps.val (LVal.quoU64 rfl rfl rfl (by omega)) rfl rfl rfl ?_
        | refine LOps.val (LVal.quo64 rfl rfl rfl (by omega)) rfl rfl rfl ?_
        | refine LOps.val (LVal.mul64 rfl rfl rfl (by omega)) rfl rfl rfl ?_
        | refine LOps.val (LVal.conv64 hD rfl rfl rfl rfl rfl (by omega)) rfl rfl rfl ?_
        | refine LOps.val (LVal.convU64 hD rfl rfl rfl rfl rfl (by omega)) rfl rfl rfl ?_
        | refine LOps.val (LVal.neqSame hD rfl rfl rfl) rfl rfl rfl ?_
        | refine LOps.val (LVal.neqSameB hD rfl rfl rfl rfl rfl) rfl rfl rfl ?_
        | refine LOps.val (LVal.binOp hD rfl rfl rfl rfl) rfl rfl rfl ?_
        | refine LOps.val (LVal.unOp rfl rfl rfl) rfl rfl rfl ?_
        | refine LOps.val (LVal.pick rfl rfl) rfl rfl rfl ?_
        | refine LOps.val (LVal.extract rfl rfl rfl) rfl rfl rfl ?_
        | refine LOps.val (LVal.convInt hD rfl rfl rfl rfl rfl) rfl rfl rfl ?_
        | refine LOps.val (LVal.fieldAddr hD rfl rfl rfl rfl rfl rfl (by decide)) rfl rfl rfl ?_
        | refine LOps.val (LVal.load hD rfl rfl (by first | assumption | exact box_new _ _ _ | exact box_set _ _ _ | (simp only [box_new, box_set, box_row, box_new_ne, box_set_ne, ne_eq, not_false_eq_true, *]; done) | (simp only [box_new, box_set, box_row, box_new_ne, box_set_ne, ne_eq, not_false_eq_true, *]; rfl)) rfl rfl) rfl rfl rfl ?_
        | refine LOps.val (LVal.indexMap hD rfl rfl rfl rfl rfl rfl (by first | assumption | omega) rfl) rfl rfl rfl ?_
        | refine LOps.val (LVal.loadRo hD rfl rfl rfl rfl) rfl rfl rfl ?_
        | refine LOps.val (LVal.fieldAddrRo hD rfl rfl rfl rfl rfl rfl (by decide)) rfl rfl rfl ?_
        | refine LOps.val (LVal.field hD rfl rfl rfl rfl rfl rfl rfl) rfl rfl rfl ?_
        | refine LOps.val (LVal.buildSlice1 hD rfl rfl rfl rfl rfl rfl rfl rfl rfl rfl) rfl rfl rfl ?_
        | refine LOps.val (LVal.build hD rfl rfl rfl rfl rfl rfl rfl) rfl rfl rfl ?_
        | refine LOps.val (LVal.buildSlice hD rfl rfl rfl rfl rfl rfl rfl rfl rfl rfl) rfl rfl rfl ?_
        | refine LOps.val (LVal.takeMap hD rfl rfl rfl rfl rfl rfl (by first | assumption | omega) rfl (fun _ _ => rfl)) rfl rfl rfl ?_
        | refine LOps.val (LVal.dropMap hD rfl rfl rfl rfl rfl rfl (by first | assumption | omega) rfl (fun _ _ => rfl)) rfl rfl rfl ?_
        | refine LOps.val (LVal.cutMap hD rfl rfl rfl rfl rfl rfl rfl (by first | assumption | omega) (by first | assumption | omega) rfl (fun _ _ => rfl)) rfl rfl rfl ?_
        | refine LOps.val (LVal.move2 rfl rfl) rfl rfl rfl ?_
        | refine LOps.val (LVal.assign2 rfl rfl) rfl rfl rfl ?_
        | refine LOps.val (LVal.move (.inl rfl)) rfl rfl rfl ?_
        | refine LOps.val (LVal.move (.inr rfl)) rfl rfl rfl ?_
        | refine LOps.out rfl rfl rfl ?_
        | refine LOps.valG (LVal.move1 rfl rfl) rfl rfl rfl ?_
        | refine LOps.valG (LVal.assign1 rfl rfl) rfl rfl rfl ?_
        | refine LOps.valG (LVal.len hD rfl rfl rfl rfl) rfl rfl rfl ?_
        | refine LOps.valG (LVal.lenStr hD rfl rfl rfl rfl) rfl rfl rfl ?_
        | refine LOps.valG (LVal.add64 rfl rfl rfl (by omega)) rfl rfl rfl ?_
        | refine LOps.valG (LVal.sub64 rfl rfl rfl (by omega)) rfl rfl rfl ?_
        | refine LOps.valG (LVal.addU64 rfl rfl rfl (by omega)) rfl rfl rfl ?_
        | refine LOps.valG (LVal.subU64 rfl rfl rfl (by omega)) rfl rfl rfl ?_
        | refine LOps.valG (LVal.mulU64 rfl rfl rfl (by omega)) rfl rfl rfl ?_
        | refine LOps.valG (LVal.remI rfl rfl rfl (by omega)) rfl rfl rfl ?_
        | refine LOps.valG (LVal.quoU64 rfl rfl rfl (by omega)) rfl rfl rfl ?_
        | refine LOps.valG (LVal.quo64 rfl rfl rfl (by omega)) rfl rfl rfl ?_
        | refine LOps.valG (LVal.mul64 rfl rfl rfl (by omega)) rfl rfl rfl ?_
        | refine LOps.valG (LVal.conv64 hD rfl rfl rfl rfl rfl (by omega)) rfl rfl rfl ?_
        | refine LOps.valG (LVal.convU64 hD rfl rfl rfl rfl rfl (by omega)) rfl rfl rfl ?_
        | refine LOps.valG (LVal.neqSame hD rfl rfl rfl) rfl rfl rfl ?_
        | refine LOps.valG (LVal.neqSameB hD rfl rfl rfl rfl rfl) rfl rfl rfl ?_
        | refine LOps.valG (LVal.binOp hD rfl rfl rfl rfl) rfl rfl rfl ?_
        | refine LOps.valG (LVal.unOp rfl rfl rfl) rfl rfl rfl ?_
        | refine LOps.valG (LVal.pick rfl rfl) rfl rfl rfl ?_
        | refine LOps.valG (LVal.extract rfl rfl rfl) rfl rfl rfl ?_
        | refine LOps.valG (LVal.convInt hD rfl rfl rfl rfl rfl) rfl rfl rfl ?_
        | refine LOps.valG (LVal.fieldAddr hD rfl rfl rfl rfl rfl rfl (by decide)) rfl rfl rfl ?_
        | refine LOps.valG (LVal.load hD rfl rfl (by first | assumption | exact box_new _ _ _ | exact box_set _ _ _ | (simp only [box_new, box_set, box_row, box_new_ne, box_set_ne, ne_eq, not_false_eq_true, *]; done) | (simp only [box_new, box_set, box_row, box_new_ne, box_set_ne, ne_eq, not_false_eq_true, *]; rfl)) rfl rfl) rfl rfl rfl ?_
        | refine LOps.valG (LVal.indexMap hD rfl rfl rfl rfl rfl rfl (by first | assumption | omega) rfl) rfl rfl rfl ?_
        | refine LOps.valG (LVal.loadRo hD rfl rfl rfl rfl) rfl rfl rfl ?_
        | refine LOps.valG (LVal.fieldAddrRo hD rfl rfl rfl rfl rfl rfl (by decide)) rfl rfl rfl ?_
        | refine LOps.valG (LVal.field hD rfl rfl rfl rfl rfl rfl rfl) rfl rfl rfl ?_
        | refine LOps.valG (LVal.buildSlice1 hD rfl rfl rfl rfl rfl rfl rfl rfl rfl rfl) rfl rfl rfl ?_
        | refine LOps.valG (LVal.build hD rfl rfl rfl rfl rfl rfl rfl) rfl rfl rfl ?_
        | refine LOps.valG (LVal.buildSlice hD rfl rfl rfl rfl rfl rfl rfl rfl rfl rfl) rfl rfl rfl ?_
        | refine LOps.valG (LVal.takeMap hD rfl rfl rfl rfl rfl rfl (by first | assumption | omega) rfl (fun _ _ => rfl)) rfl rfl rfl ?_
        | refine LOps.valG (LVal.dropMap hD rfl rfl rfl rfl rfl rfl (by first | assumption | omega) rfl (fun _ _ => rfl)) rfl rfl rfl ?_
        | refine LOps.valG (LVal.cutMap hD rfl rfl rfl rfl rfl rfl rfl (by first | assumption | omega) (by first | assumption | omega) rfl (fun _ _ => rfl)) rfl rfl rfl ?_
        | refine LOps.valG (LVal.move2 rfl rfl) rfl rfl rfl ?_
        | refine LOps.valG (LVal.assign2 rfl rfl) rfl rfl rfl ?_
        | refine LOps.valG (LVal.move (.inl rfl)) rfl rfl rfl ?_
        | refine LOps.valG (LVal.move (.inr rfl)) rfl rfl rfl ?_
        | (refine LOps.do0 (LDo.store hD rfl rfl (by first | assumption | exact box_new _ _ _ | exact box_set _ _ _ | (simp only [box_new, box_set, box_row, box_new_ne, box_set_ne, ne_eq, not_false_eq_true, *]; done) | (simp only [box_new, box_set, box_row, box_new_ne, box_set_ne, ne_eq, not_false_eq_true, *]; rfl)) rfl rfl rfl rfl) rfl rfl ?_; rintro _ _ ⟨rfl, rfl⟩))
      refine ⟨_, LRes.one rfl, ?_, LS.le.refl _⟩
      have : n ∈ xs := by
        have : xs[j] = n := by simpa using h
        rw [← this]; simp
      simp [this]; rfl
    · repeat (first
        | refine LOps.nil ?_
        | refine andThen_normal ?_
        | refine andThen_exit ?_
        | refine andThen_ret ?_
        | refine inBlock_normal ?_
        | refine inBlock_ret ?_
        | refine inBlock_here ?_
        | refine inBlock_out rfl ?_
        | refine LWp.seq ?_
        | refine LWp.region ?_
        | refine LWp.block ?_
        | refine LWp.exit ?_
        | refine LWp.ret ?_
        | refine LWp.skip ?_
        | refine LOps.val (LVal.move1 rfl rfl) rfl rfl rfl ?_
        | refine LOps.val (LVal.assign1 rfl rfl) rfl rfl rfl ?_
        | refine LOps.val (LVal.len hD rfl rfl rfl rfl) rfl rfl rfl ?_
        | refine LOps.val (LVal.lenStr hD rfl rfl rfl rfl) rfl rfl rfl ?_
        | refine LOps.val (LVal.add64 rfl rfl rfl (by omega)) rfl rfl rfl ?_
        | refine LOps.val (LVal.sub64 rfl rfl rfl (by omega)) rfl rfl rfl ?_
        | refine LOps.val (LVal.addU64 rfl rfl rfl (by omega)) rfl rfl rfl ?_
        | refine LOps.val (LVal.subU64 rfl rfl rfl (by omega)) rfl rfl rfl ?_
        | refine LOps.val (LVal.mulU64 rfl rfl rfl (by omega)) rfl rfl rfl ?_
        | refine LOps.val (LVal.remI rfl rfl rfl (by omega)) rfl rfl rfl ?_
        | refine LOps.val (LVal.quoU64 rfl rfl rfl (by omega)) rfl rfl rfl ?_
        | refine LOps.val (LVal.quo64 rfl rfl rfl (by omega)) rfl rfl rfl ?_
        | refine LOps.val (LVal.mul64 rfl rfl rfl (by omega)) rfl rfl rfl ?_
        | refine LOps.val (LVal.conv64 hD rfl rfl rfl rfl rfl (by omega)) rfl rfl rfl ?_
        | refine LOps.val (LVal.convU64 hD rfl rfl rfl rfl rfl (by omega)) rfl rfl rfl ?_
        | refine LOps.val (LVal.neqSame hD rfl rfl rfl) rfl rfl rfl ?_
        | refine LOps.val (LVal.neqSameB hD rfl rfl rfl rfl rfl) rfl rfl rfl ?_
        | refine LOps.val (LVal.binOp hD rfl rfl rfl rfl) rfl rfl rfl ?_
        | refine LOps.val (LVal.unOp rfl rfl rfl) rfl rfl rfl ?_
        | refine LOps.val (LVal.pick rfl rfl) rfl rfl rfl ?_
        | refine LOps.val (LVal.extract rfl rfl rfl) rfl rfl rfl ?_
        | refine LOps.val (LVal.convInt hD rfl rfl rfl rfl rfl) rfl rfl rfl ?_
        | refine LOps.val (LVal.fieldAddr hD rfl rfl rfl rfl rfl rfl (by decide)) rfl rfl rfl ?_
        | refine LOps.val (LVal.load hD rfl rfl (by first | assumption | exact box_new _ _ _ | exact box_set _ _ _ | (simp only [box_new, box_set, box_row, box_new_ne, box_set_ne, ne_eq, not_false_eq_true, *]; done) | (simp only [box_new, box_set, box_row, box_new_ne, box_set_ne, ne_eq, not_false_eq_true, *]; rfl)) rfl rfl) rfl rfl rfl ?_
        | refine LOps.val (LVal.indexMap hD rfl rfl rfl rfl rfl rfl (by first | assumption | omega) rfl) rfl rfl rfl ?_
        | refine LOps.val (LVal.loadRo hD rfl rfl rfl rfl) rfl rfl rfl ?_
        | refine LOps.val (LVal.fieldAddrRo hD rfl rfl rfl rfl rfl rfl (by decide)) rfl rfl rfl ?_
        | refine LOps.val (LVal.field hD rfl rfl rfl rfl rfl rfl rfl) rfl rfl rfl ?_
        | refine LOps.val (LVal.buildSlice1 hD rfl rfl rfl rfl rfl rfl rfl rfl rfl rfl) rfl rfl rfl ?_
        | refine LOps.val (LVal.build hD rfl rfl rfl rfl rfl rfl rfl) rfl rfl rfl ?_
        | refine LOps.val (LVal.buildSlice hD rfl rfl rfl rfl rfl rfl rfl rfl rfl rfl) rfl rfl rfl ?_
        | refine LOps.val (LVal.takeMap hD rfl rfl rfl rfl rfl rfl (by first | assumption | omega) rfl (fun _ _ => rfl)) rfl rfl rfl ?_
        | refine LOps.val (LVal.dropMap hD rfl rfl rfl rfl rfl rfl (by first | assumption | omega) rfl (fun _ _ => rfl)) rfl rfl rfl ?_
        | refine LOps.val (LVal.cutMap hD rfl rfl rfl rfl rfl rfl rfl (by first | assumption | omega) (by first | assumption | omega) rfl (fun _ _ => rfl)) rfl rfl rfl ?_
        | refine LOps.val (LVal.move2 rfl rfl) rfl rfl rfl ?_
        | refine LOps.val (LVal.assign2 rfl rfl) rfl rfl rfl ?_
        | refine LOps.val (LVal.move (.inl rfl)) rfl rfl rfl ?_
        | refine LOps.val (LVal.move (.inr rfl)) rfl rfl rfl ?_
        | refine LOps.out rfl rfl rfl ?_
        | refine LOps.valG (LVal.move1 rfl rfl) rfl rfl rfl ?_
        | refine LOps.valG (LVal.assign1 rfl rfl) rfl rfl rfl ?_
        | refine LOps.valG (LVal.len hD rfl rfl rfl rfl) rfl rfl rfl ?_
        | refine LOps.valG (LVal.lenStr hD rfl rfl rfl rfl) rfl rfl rfl ?_
        | refine LOps.valG (LVal.add64 rfl rfl rfl (by omega)) rfl rfl rfl ?_
        | refine LOps.valG (LVal.sub64 rfl rfl rfl (by omega)) rfl rfl rfl ?_
        | refine LOps.valG (LVal.addU64 rfl rfl rfl (by omega)) rfl rfl rfl ?_
        | refine LOps.valG (LVal.subU64 rfl rfl rfl (by omega)) rfl rfl rfl ?_
        | refine LOps.valG (LVal.mulU64 rfl rfl rfl (by omega)) rfl rfl rfl ?_
        | refine LOps.valG (LVal.remI rfl rfl rfl (by omega)) rfl rfl rfl ?_
        | refine LOps.valG (LVal.quoU64 rfl rfl rfl (by omega)) rfl rfl rfl ?_
        | refine LOps.valG (LVal.quo64 rfl rfl rfl (by omega)) rfl rfl rfl ?_
        | refine LOps.valG (LVal.mul64 rfl rfl rfl (by omega)) rfl rfl rfl ?_
        | refine LOps.valG (LVal.conv64 hD rfl rfl rfl rfl rfl (by omega)) rfl rfl rfl ?_
        | refine LOps.valG (LVal.convU64 hD rfl rfl rfl rfl rfl (by omega)) rfl rfl rfl ?_
        | refine LOps.valG (LVal.neqSame hD rfl rfl rfl) rfl rfl rfl ?_
        | refine LOps.valG (LVal.neqSameB hD rfl rfl rfl rfl rfl) rfl rfl rfl ?_
        | refine LOps.valG (LVal.binOp hD rfl rfl rfl rfl) rfl rfl rfl ?_
        | refine LOps.valG (LVal.unOp rfl rfl rfl) rfl rfl rfl ?_
        | refine LOps.valG (LVal.pick rfl rfl) rfl rfl rfl ?_
        | refine LOps.valG (LVal.extract rfl rfl rfl) rfl rfl rfl ?_
        | refine LOps.valG (LVal.convInt hD rfl rfl rfl rfl rfl) rfl rfl rfl ?_
        | refine LOps.valG (LVal.fieldAddr hD rfl rfl rfl rfl rfl rfl (by decide)) rfl rfl rfl ?_
        | refine LOps.valG (LVal.load hD rfl rfl (by first | assumption | exact box_new _ _ _ | exact box_set _ _ _ | (simp only [box_new, box_set, box_row, box_new_ne, box_set_ne, ne_eq, not_false_eq_true, *]; done) | (simp only [box_new, box_set, box_row, box_new_ne, box_set_ne, ne_eq, not_false_eq_true, *]; rfl)) rfl rfl) rfl rfl rfl ?_
        | refine LOps.valG (LVal.indexMap hD rfl rfl rfl rfl rfl rfl (by first | assumption | omega) rfl) rfl rfl rfl ?_
        | refine LOps.valG (LVal.loadRo hD rfl rfl rfl rfl) rfl rfl rfl ?_
        | refine LOps.valG (LVal.fieldAddrRo hD rfl rfl rfl rfl rfl rfl (by decide)) rfl rfl rfl ?_
        | refine LOps.valG (LVal.field hD rfl rfl rfl rfl rfl rfl rfl) rfl rfl rfl ?_
        | refine LOps.valG (LVal.buildSlice1 hD rfl rfl rfl rfl rfl rfl rfl rfl rfl rfl) rfl rfl rfl ?_
        | refine LOps.valG (LVal.build hD rfl rfl rfl rfl rfl rfl rfl) rfl rfl rfl ?_
        | refine LOps.valG (LVal.buildSlice hD rfl rfl rfl rfl rfl rfl rfl rfl rfl rfl) rfl rfl rfl ?_
        | refine LOps.valG (LVal.takeMap hD rfl rfl rfl rfl rfl rfl (by first | assumption | omega) rfl (fun _ _ => rfl)) rfl rfl rfl ?_
        | refine LOps.valG (LVal.dropMap hD rfl rfl rfl rfl rfl rfl (by first | assumption | omega) rfl (fun _ _ => rfl)) rfl rfl rfl ?_
        | refine LOps.valG (LVal.cutMap hD rfl rfl rfl rfl rfl rfl rfl (by first | assumption | omega) (by first | assumption | omega) rfl (fun _ _ => rfl)) rfl rfl rfl ?_
        | refine LOps.valG (LVal.move2 rfl rfl) rfl rfl rfl ?_
        | refine LOps.valG (LVal.assign2 rfl rfl) rfl rfl rfl ?_
        | refine LOps.valG (LVal.move (.inl rfl)) rfl rfl rfl ?_
        | refine LOps.valG (LVal.move (.inr rfl)) rfl rfl rfl ?_
        | (refine LOps.do0 (LDo.store hD rfl rfl (by first | assumption | exact box_new _ _ _ | exact box_set _ _ _ | (simp only [box_new, box_set, box_row, box_new_ne, box_set_ne, ne_eq, not_false_eq_true, *]; done) | (simp only [box_new, box_set, box_row, box_new_ne, box_set_ne, ne_eq, not_false_eq_true, *]; rfl)) rfl rfl rfl rfl) rfl rfl ?_; rintro _ _ ⟨rfl, rfl⟩))
      refine ⟨xs.length - (j + 1), by omega, rfl, _, j + 1, by omega, rfl, ?_, holds.over ⟨rfl, rfl, rfl, trivial⟩⟩
      have : xs[j] ≠ n := by simpa using h
      rw [List.take_succ_eq_append_getElem hlt, List.mem_append, not_or]
      exact ⟨hno, by simpa using Ne.symm this⟩
  · have hge : xs.length ≤ j := by simpa using h
    repeat (first
      | refine LOps.nil ?_
      | refine andThen_normal ?_
      | refine andThen_exit ?_
      | refine andThen_ret ?_
      | refine inBlock_normal ?_
      | refine inBlock_ret ?_
      | refine inBlock_here ?_
      | refine inBlock_out rfl ?_
      | refine LWp.seq ?_
      | refine LWp.region ?_
      | refine LWp.block ?_
      | refine LWp.exit ?_
      | refine LWp.ret ?_
      | refine LWp.skip ?_
      | refine LOps.val (LVal.move1 rfl rfl) rfl rfl rfl ?_
      | refine LOps.val (LVal.assign1 rfl rfl) rfl rfl rfl ?_
      | refine LOps.val (LVal.len hD rfl rfl rfl rfl) rfl rfl rfl ?_
      | refine LOps.val (LVal.lenStr hD rfl rfl rfl rfl) rfl rfl rfl ?_
      | refine LOps.val (LVal.add64 rfl rfl rfl (by omega)) rfl rfl rfl ?_
      | refine LOps.val (LVal.sub64 rfl rfl rfl (by omega)) rfl rfl rfl ?_
      | refine LOps.val (LVal.addU64 rfl rfl rfl (by omega)) rfl rfl rfl ?_
      | refine LOps.val (LVal.subU64 rfl rfl rfl (by omega)) rfl rfl rfl ?_
      | refine LOps.val (LVal.mulU64 rfl rfl rfl (by omega)) rfl rfl rfl ?_
      | refine LOps.val (LVal.remI rfl rfl rfl (by omega)) rfl rfl rfl ?_
      | refine LOps.val (LVal.quoU64 rfl rfl rfl (by omega)) rfl rfl rfl ?_
      | refine LOps.val (LVal.quo64 rfl rfl rfl (by omega)) rfl rfl rfl ?_
      | refine LOps.val (LVal.mul64 rfl rfl rfl (by omega)) rfl rfl rfl ?_
      | refine LOps.val (LVal.conv64 hD rfl rfl rfl rfl rfl (by omega)) rfl rfl rfl ?_
      | refine LOps.val (LVal.convU64 hD rfl rfl rfl rfl rfl (by omega)) rfl rfl rfl ?_
      | refine LOps.val (LVal.neqSame hD rfl rfl rfl) rfl rfl rfl ?_
      | refine LOps.val (LVal.neqSameB hD rfl rfl rfl rfl rfl) rfl rfl rfl ?_
      | refine LOps.val (LVal.binOp hD rfl rfl rfl rfl) rfl rfl rfl ?_
      | refine LOps.val (LVal.unOp rfl rfl rfl) rfl rfl rfl ?_
      | refine LOps.val (LVal.pick rfl rfl) rfl rfl rfl ?_
      | refine LOps.val (LVal.extract rfl rfl rfl) rfl rfl rfl ?_
      | refine LOps.val (LVal.convInt hD rfl rfl rfl rfl rfl) rfl rfl rfl ?_
      | refine LOps.val (LVal.fieldAddr hD rfl rfl rfl rfl rfl rfl (by decide)) rfl rfl rfl ?_
      | refine LOps.val (LVal.load hD rfl rfl (by first | assumption | exact box_new _ _ _ | exact box_set _ _ _ | (simp only [box_new, box_set, box_row, box_new_ne, box_set_ne, ne_eq, not_false_eq_true, *]; done) | (simp only [box_new, box_set, box_row, box_new_ne, box_set_ne, ne_eq, not_false_eq_true, *]; rfl)) rfl rfl) rfl rfl rfl ?_
      | refine LOps.val (LVal.indexMap hD rfl rfl rfl rfl rfl rfl (by first | assumption | omega) rfl) rfl rfl rfl ?_
      | refine LOps.val (LVal.loadRo hD rfl rfl rfl rfl) rfl rfl rfl ?_
      | refine LOps.val (LVal.fieldAddrRo hD rfl rfl rfl rfl rfl rfl (by decide)) rfl rfl rfl ?_
      | refine LOps.val (LVal.field hD rfl rfl rfl rfl rfl rfl rfl) rfl rfl rfl ?_
      | refine LOps.val (LVal.buildSlice1 hD rfl rfl rfl rfl rfl rfl rfl rfl rfl rfl) rfl rfl rfl ?_
      | refine LOps.val (LVal.build hD rfl rfl rfl rfl rfl rfl rfl) rfl rfl rfl ?_
      | refine LOps.val (LVal.buildSlice hD rfl rfl rfl rfl rfl rfl rfl rfl rfl rfl) rfl rfl rfl ?_
      | refine LOps.val (LVal.takeMap hD rfl rfl rfl rfl rfl rfl (by first | assumption | omega) rfl (fun _ _ => rfl)) rfl rfl rfl ?_
      | refine LOps.val (LVal.dropMap hD rfl rfl rfl rfl rfl rfl (by first | assumption | omega) rfl (fun _ _ => rfl)) rfl rfl rfl ?_
      | refine LOps.val (LVal.cutMap hD rfl rfl rfl rfl rfl rfl rfl (by first | assumption | omega) (by first | assumption | omega) rfl (fun _ _ => rfl)) rfl rfl rfl ?_
      | refine LOps.val (LVal.move2 rfl rfl) rfl rfl rfl ?_
      | refine LOps.val (LVal.assign2 rfl rfl) rfl rfl rfl ?_
      | refine LOps.val (LVal.move (.inl rfl)) rfl rfl rfl ?_
      | refine LOps.val (LVal.move (.inr rfl)) rfl rfl rfl ?_
      | refine LOps.out rfl rfl rfl ?_
      | refine LOps.valG (LVal.move1 rfl rfl) rfl rfl rfl ?_
      | refine LOps.valG (LVal.assign1 rfl rfl) rfl rfl rfl ?_
      | refine LOps.valG (LVal.len hD rfl rfl rfl rfl) rfl rfl rfl ?_
      | refine LOps.valG (LVal.lenStr hD rfl rfl rfl rfl) rfl rfl rfl ?_
      | refine LOps.valG (LVal.add64 rfl rfl rfl (by omega)) rfl rfl rfl ?_
      | refine LOps.valG (LVal.sub64 rfl rfl rfl (by omega)) rfl rfl rfl ?_
      | refine LOps.valG (LVal.addU64 rfl rfl rfl (by omega)) rfl rfl rfl ?_
      | refine LOps.valG (LVal.subU64 rfl rfl rfl (by omega)) rfl rfl rfl ?_
      | refine LOps.valG (LVal.mulU64 rfl rfl rfl (by omega)) rfl rfl rfl ?_
      | refine LOps.valG (LVal.remI rfl rfl rfl (by omega)) rfl rfl rfl ?_
      | refine LOps.valG (LVal.quoU64 rfl rfl rfl (by omega)) rfl rfl rfl ?_
      | refine LOps.valG (LVal.quo64 rfl rfl rfl (by omega)) rfl rfl rfl ?_
      | refine LOps.valG (LVal.mul64 rfl rfl rfl (by omega)) rfl rfl rfl ?_
      | refine LOps.valG (LVal.conv64 hD rfl rfl rfl rfl rfl (by omega)) rfl rfl rfl ?_
      | refine LOps.valG (LVal.convU64 hD rfl rfl rfl rfl rfl (by omega)) rfl rfl rfl ?_
      | refine LOps.valG (LVal.neqSame hD rfl rfl rfl) rfl rfl rfl ?_
      | refine LOps.valG (LVal.neqSameB hD rfl rfl rfl rfl rfl) rfl rfl rfl ?_
      | refine LOps.valG (LVal.binOp hD rfl rfl rfl rfl) rfl rfl rfl ?_
      | refine LOps.valG (LVal.unOp rfl rfl rfl) rfl rfl rfl ?_
      | refine LOps.valG (LVal.pick rfl rfl) rfl rfl rfl ?_
      | refine LOps.valG (LVal.extract rfl rfl rfl) rfl rfl rfl ?_
      | refine LOps.valG (LVal.convInt hD rfl rfl rfl rfl rfl) rfl rfl rfl ?_
      | refine LOps.valG (LVal.fieldAddr hD rfl rfl rfl rfl rfl rfl (by decide)) rfl rfl rfl ?_
      | refine LOps.valG (LVal.load hD rfl rfl (by first | assumption | exact box_new _ _ _ | exact box_set _ _ _ | (simp only [box_new, box_set, box_row, box_new_ne, box_set_ne, ne_eq, not_false_eq_true, *]; done) | (simp only [box_new, box_set, box_row, box_new_ne, box_set_ne, ne_eq, not_false_eq_true, *]; rfl)) rfl rfl) rfl rfl rfl ?_
      | refine LOps.valG (LVal.indexMap hD rfl rfl rfl rfl rfl rfl (by first | assumption | omega) rfl) rfl rfl rfl ?_
      | refine LOps.valG (LVal.loadRo hD rfl rfl rfl rfl) rfl rfl rfl ?_
      | refine LOps.valG (LVal.fieldAddrRo hD rfl rfl rfl rfl rfl rfl (by decide)) rfl rfl rfl ?_
      | refine LOps.valG (LVal.field hD rfl rfl rfl rfl rfl rfl rfl) rfl rfl rfl ?_
      | refine LOps.valG (LVal.buildSlice1 hD rfl rfl rfl rfl rfl rfl rfl rfl rfl rfl) rfl rfl rfl ?_
      | refine LOps.valG (LVal.build hD rfl rfl rfl rfl rfl rfl rfl) rfl rfl rfl ?_
      | refine LOps.valG (LVal.buildSlice hD rfl rfl rfl rfl rfl rfl rfl rfl rfl rfl) rfl rfl rfl ?_
      | refine LOps.valG (LVal.takeMap hD rfl rfl rfl rfl rfl rfl (by first | assumption | omega) rfl (fun _ _ => rfl)) rfl rfl rfl ?_
      | refine LOps.valG (LVal.dropMap hD rfl rfl rfl rfl rfl rfl (by first | assumption | omega) rfl (fun _ _ => rfl)) rfl rfl rfl ?_
      | refine LOps.valG (LVal.cutMap hD rfl rfl rfl rfl rfl rfl rfl (by first | assumption | omega) (by first | assumption | omega) rfl (fun _ _ => rfl)) rfl rfl rfl ?_
      | refine LOps.valG (LVal.move2 rfl rfl) rfl rfl rfl ?_
      | refine LOps.valG (LVal.assign2 rfl rfl) rfl rfl rfl ?_
      | refine LOps.valG (LVal.move (.inl rfl)) rfl rfl rfl ?_
      | refine LOps.valG (LVal.move (.inr rfl)) rfl rfl rfl ?_
      | (refine LOps.do0 (LDo.store hD rfl rfl (by first | assumption | exact box_new _ _ _ | exact box_set _ _ _ | (simp only [box_new, box_set, box_row, box_new_ne, box_set_ne, ne_eq, not_false_eq_true, *]; done) | (simp only [box_new, box_set, box_row, box_new_ne, box_set_ne, ne_eq, not_false_eq_true, *]; rfl)) rfl rfl rfl rfl) rfl rfl ?_; rintro _ _ ⟨rfl, rfl⟩))
    refine ⟨_, LRes.one rfl, ?_, LS.le.refl _⟩
    rw [List.take_of_length_le hge] at hno
    simp [hno]; rfl
abbrev iList (xs : List Nat) : List (List LV) := xs.map fun (x : Nat) => [iv (x : Int)]
theorem has_F {G : Ctx} (hP : G.P = Try.prog) (xs : List Nat) (n : Nat) (hx : xs.length ≤ 1000000) : LFun G 24 [.one (.sl .sh (iList xs)), .one (iv n)] (.one (.v (.bool (decide (n ∈ xs))))) := by
  have := LFun.of (has_L hP (xs.map Nat.cast) n (by simpa using hx))
  rw [List.map_map] at this
  have e : decide ((n : Int) ∈ xs.map Nat.cast) = decide (n ∈ xs) := by
    rw [decide_eq_decide, List.mem_map]
    exact ⟨fun ⟨a, h1, h2⟩ => by rw [← Int.ofNat_inj.1 h2]; exact h1, fun h => ⟨n, h, rfl⟩⟩
  rw [e] at this
  exact this
theorem iList_snoc (xs : List Nat) (x : Nat) : iList (xs ++ [x]) = iList xs ++ [[iv x]] := by simp

/-- What the document's Of answers. -/
def ofR (p : Nat) : TV := if rt (slots p) then .tup [.agg [.sl .sh (iList ((slots p).take (p % 16))), .sl .sh (iList ((slots p).drop (p % 16)))], .one (.v (.bool true))] else .tup [.agg [.sl .sh [], .sl .sh []], .one (.v (.bool false))]

theorem ofR_no {p : Nat} (h : ¬ Rt (slots p)) : ofR p = .tup [.agg [.sl .sh [], .sl .sh []], .one (.v (.bool false))] := by unfold ofR; rw [rt_no h]; rfl
theorem ofR_yes {p : Nat} (h : Rt (slots p)) : ofR p = .tup [.agg [.sl .sh (iList ((slots p).take (p % 16))), .sl .sh (iList ((slots p).drop (p % 16)))], .one (.v (.bool true))] := by unfold ofR; rw [rt_yes h]; rfl

set_option maxHeartbeats 2000000 in
theorem of_L {G : Ctx} (hP : G.P = Try.prog) (p : Nat) (hp : p < 18446744073709551616) (S : LS) :
    LCalls G 18 [.one (.v (.int .u64 p))] (fun r S' => r = ofR p ∧ S.le S') S := by
  have hD : TabOK G.P D := by rw [hP]; exact hD0
  obtain ⟨n, hn⟩ : ∃ n, n = p % 16 := ⟨_, rfl⟩
  have hn16 : n < 16 := by omega
  obtain ⟨L, hL⟩ : ∃ L, L = slots p := ⟨_, rfl⟩
  have hlen : L.length = 15 := by rw [hL]; exact slots_length p
  have hrp := rt_parts p
  rw [← hL] at hrp
  have hget : ∀ k, k < 15 → L[k]? = some (p / 16 ^ (k + 1) % 16) := fun k hk => by rw [hL, slots_get p k hk]; rfl
  refine LCalls.enter (fn := Try.f18) (by rw [hP]; exact Try.func18) rfl rfl ?_
  repeat (first
    | refine LOps.nil ?_
    | refine andThen_normal ?_
    | refine andThen_exit ?_
    | refine andThen_ret ?_
    | refine inBlock_normal ?_
    | refine inBlock_ret ?_
    | refine inBlock_here ?_
    | refine inBlock_out rfl ?_
    | refine LWp.seq ?_
    | refine LWp.region ?_
    | refine LWp.block ?_
    | refine LWp.exit ?_
    | refine LWp.ret ?_
    | refine LWp.skip ?_
    | refine LOps.val (LVal.move1 rfl rfl) rfl rfl rfl ?_
    | refine LOps.val (LVal.assign1 rfl rfl) rfl rfl rfl ?_
    | refine LOps.val (LVal.len hD rfl rfl rfl rfl) rfl rfl rfl ?_
    | refine LOps.val (LVal.lenStr hD rfl rfl rfl rfl) rfl rfl rfl ?_
    | refine LOps.val (LVal.add64 rfl rfl rfl (by omega)) rfl rfl rfl ?_
    | refine LOps.val (LVal.sub64 rfl rfl rfl (by omega)) rfl rfl rfl ?_
    | refine LOps.val (LVal.addU64 rfl rfl rfl (by omega)) rfl rfl rfl ?_
    | refine LOps.val (LVal.subU64 rfl rfl rfl (by omega)) rfl rfl rfl ?_
    | refine LOps.val (LVal.mulU64 rfl rfl rfl (by omega)) rfl rfl rfl ?_
    | refine LOps.val (LVal.remI rfl rfl rfl (by omega)) rfl rfl rfl ?_
    | refine LOps.val (LVal.quoU64 rfl rfl rfl (by omega)) rfl rfl rfl ?_
    | refine LOps.val (LVal.quo64 rfl rfl rfl (by omega)) rfl rfl rfl ?_
    | refine LOps.val (LVal.mul64 rfl rfl rfl (by omega)) rfl rfl rfl ?_
    | refine LOps.val (LVal.conv64 hD rfl rfl rfl rfl rfl (by omega)) rfl rfl rfl ?_
    | refine LOps.val (LVal.convU64 hD rfl rfl rfl rfl rfl (by omega)) rfl rfl rfl ?_
    | refine LOps.val (LVal.neqSame hD rfl rfl rfl) rfl rfl rfl ?_
    | refine LOps.val (LVal.neqSameB hD rfl rfl rfl rfl rfl) rfl rfl rfl ?_
    | refine LOps.val (LVal.binOp hD rfl rfl rfl rfl) rfl rfl rfl ?_
    | refine LOps.val (LVal.unOp rfl rfl rfl) rfl rfl rfl ?_
    | refine LOps.val (LVal.pick rfl rfl) rfl rfl rfl ?_
    | refine LOps.val (LVal.extract rfl rfl rfl) rfl rfl rfl ?_
    | refine LOps.val (LVal.convInt hD rfl rfl rfl rfl rfl) rfl rfl rfl ?_
    | refine LOps.val (LVal.fieldAddr hD rfl rfl rfl rfl rfl rfl (by decide)) rfl rfl rfl ?_
    | refine LOps.val (LVal.load hD rfl rfl (by first | assumption | exact box_new _ _ _ | exact box_set _ _ _ | (simp only [box_new, box_set, box_row, box_new_ne, box_set_ne, ne_eq, not_false_eq_true, *]; done) | (simp only [box_new, box_set, box_row, box_new_ne, box_set_ne, ne_eq, not_false_eq_true, *]; rfl)) rfl rfl) rfl rfl rfl ?_
    | refine LOps.val (LVal.indexMap hD rfl rfl rfl rfl rfl rfl (by first | assumption | omega) rfl) rfl rfl rfl ?_
    | refine LOps.val (LVal.loadRo hD rfl rfl rfl rfl) rfl rfl rfl ?_
    | refine LOps.val (LVal.fieldAddrRo hD rfl rfl rfl rfl rfl rfl (by decide)) rfl rfl rfl ?_
    | refine LOps.val (LVal.field hD rfl rfl rfl rfl rfl rfl rfl) rfl rfl rfl ?_
    | refine LOps.val (LVal.buildSlice1 hD rfl rfl rfl rfl rfl rfl rfl rfl rfl rfl) rfl rfl rfl ?_
    | refine LOps.val (LVal.build hD rfl rfl rfl rfl rfl rfl rfl) rfl rfl rfl ?_
    | refine LOps.val (LVal.buildSlice hD rfl rfl rfl rfl rfl rfl rfl rfl rfl rfl) rfl rfl rfl ?_
    | refine LOps.val (LVal.takeMap hD rfl rfl rfl rfl rfl rfl (by first | assumption | omega) rfl (fun _ _ => rfl)) rfl rfl rfl ?_
    | refine LOps.val (LVal.dropMap hD rfl rfl rfl rfl rfl rfl (by first | assumption | omega) rfl (fun _ _ => rfl)) rfl rfl rfl ?_
    | refine LOps.val (LVal.cutMap hD rfl rfl rfl rfl rfl rfl rfl (by first | assumption | omega) (by first | assumption | omega) rfl (fun _ _ => rfl)) rfl rfl rfl ?_
    | refine LOps.val (LVal.move2 rfl rfl) rfl rfl rfl ?_
    | refine LOps.val (LVal.assign2 rfl rfl) rfl rfl rfl ?_
    | refine LOps.val (LVal.move (.inl rfl)) rfl rfl rfl ?_
    | refine LOps.val (LVal.move (.inr rfl)) rfl rfl rfl ?_
    | refine LOps.out rfl rfl rfl ?_
    | refine LOps.valG (LVal.move1 rfl rfl) rfl rfl rfl ?_
    | refine LOps.valG (LVal.assign1 rfl rfl) rfl rfl rfl ?_
    | refine LOps.valG (LVal.len hD rfl rfl rfl rfl) rfl rfl rfl ?_
    | refine LOps.valG (LVal.lenStr hD rfl rfl rfl rfl) rfl rfl rfl ?_
    | refine LOps.valG (LVal.add64 rfl rfl rfl (by omega)) rfl rfl rfl ?_
    | refine LOps.valG (LVal.sub64 rfl rfl rfl (by omega)) rfl rfl rfl ?_
    | refine LOps.valG (LVal.addU64 rfl rfl rfl (by omega)) rfl rfl rfl ?_
    | refine LOps.valG (LVal.subU64 rfl rfl rfl (by omega)) rfl rfl rfl ?_
    | refine LOps.valG (LVal.mulU64 rfl rfl rfl (by omega)) rfl rfl rfl ?_
    | refine LOps.valG (LVal.remI rfl rfl rfl (by omega)) rfl rfl rfl ?_
    | refine LOps.valG (LVal.quoU64 rfl rfl rfl (by omega)) rfl rfl rfl ?_
    | refine LOps.valG (LVal.quo64 rfl rfl rfl (by omega)) rfl rfl rfl ?_
    | refine LOps.valG (LVal.mul64 rfl rfl rfl (by omega)) rfl rfl rfl ?_
    | refine LOps.valG (LVal.conv64 hD rfl rfl rfl rfl rfl (by omega)) rfl rfl rfl ?_
    | refine LOps.valG (LVal.convU64 hD rfl rfl rfl rfl rfl (by omega)) rfl rfl rfl ?_
    | refine LOps.valG (LVal.neqSame hD rfl rfl rfl) rfl rfl rfl ?_
    | refine LOps.valG (LVal.neqSameB hD rfl rfl rfl rfl rfl) rfl rfl rfl ?_
    | refine LOps.valG (LVal.binOp hD rfl rfl rfl rfl) rfl rfl rfl ?_
    | refine LOps.valG (LVal.unOp rfl rfl rfl) rfl rfl rfl ?_
    | refine LOps.valG (LVal.pick rfl rfl) rfl rfl rfl ?_
    | refine LOps.valG (LVal.extract rfl rfl rfl) rfl rfl rfl ?_
    | refine LOps.valG (LVal.convInt hD rfl rfl rfl rfl rfl) rfl rfl rfl ?_
    | refine LOps.valG (LVal.fieldAddr hD rfl rfl rfl rfl rfl rfl (by decide)) rfl rfl rfl ?_
    | refine LOps.valG (LVal.load hD rfl rfl (by first | assumption | exact box_new _ _ _ | exact box_set _ _ _ | (simp only [box_new, box_set, box_row, box_new_ne, box_set_ne, ne_eq, not_false_eq_true, *]; done) | (simp only [box_new, box_set, box_row, box_new_ne, box_set_ne, ne_eq, not_false_eq_true, *]; rfl)) rfl rfl) rfl rfl rfl ?_
    | refine LOps.valG (LVal.indexMap hD rfl rfl rfl rfl rfl rfl (by first | assumption | omega) rfl) rfl rfl rfl ?_
    | refine LOps.valG (LVal.loadRo hD rfl rfl rfl rfl) rfl rfl rfl ?_
    | refine LOps.valG (LVal.fieldAddrRo hD rfl rfl rfl rfl rfl rfl (by decide)) rfl rfl rfl ?_
    | refine LOps.valG (LVal.field hD rfl rfl rfl rfl rfl rfl rfl) rfl rfl rfl ?_
    | refine LOps.valG (LVal.buildSlice1 hD rfl rfl rfl rfl rfl rfl rfl rfl rfl rfl) rfl rfl rfl ?_
    | refine LOps.valG (LVal.build hD rfl rfl rfl rfl rfl rfl rfl) rfl rfl rfl ?_
    | refine LOps.valG (LVal.buildSlice hD rfl rfl rfl rfl rfl rfl rfl rfl rfl rfl) rfl rfl rfl ?_
    | refine LOps.valG (LVal.takeMap hD rfl rfl rfl rfl rfl rfl (by first | assumption | omega) rfl (fun _ _ => rfl)) rfl rfl rfl ?_
    | refine LOps.valG (LVal.dropMap hD rfl rfl rfl rfl rfl rfl (by first | assumption | omega) rfl (fun _ _ => rfl)) rfl rfl rfl ?_
    | refine LOps.valG (LVal.cutMap hD rfl rfl rfl rfl rfl rfl rfl (by first | assumption | omega) (by first | assumption | omega) rfl (fun _ _ => rfl)) rfl rfl rfl ?_
    | refine LOps.valG (LVal.move2 rfl rfl) rfl rfl rfl ?_
    | refine LOps.valG (LVal.assign2 rfl rfl) rfl rfl rfl ?_
    | refine LOps.valG (LVal.move (.inl rfl)) rfl rfl rfl ?_
    | refine LOps.valG (LVal.move (.inr rfl)) rfl rfl rfl ?_
    | (refine LOps.do0 (LDo.store hD rfl rfl (by first | assumption | exact box_new _ _ _ | exact box_set _ _ _ | (simp only [box_new, box_set, box_row, box_new_ne, box_set_ne, ne_eq, not_false_eq_true, *]; done) | (simp only [box_new, box_set, box_row, box_new_ne, box_set_ne, ne_eq, not_false_eq_true, *]; rfl)) rfl rfl rfl rfl) rfl rfl ?_; rintro _ _ ⟨rfl, rfl⟩))
  refine LOps.do (LDo.alloc hD rfl rfl rfl) rfl rfl rfl ?_
  rintro _ _ ⟨br, hbr, rfl, rfl⟩
  repeat (first
    | refine LOps.nil ?_
    | refine andThen_normal ?_
    | refine andThen_exit ?_
    | refine andThen_ret ?_
    | refine inBlock_normal ?_
    | refine inBlock_ret ?_
    | refine inBlock_here ?_
    | refine inBlock_out rfl ?_
    | refine LWp.seq ?_
    | refine LWp.region ?_
    | refine LWp.block ?_
    | refine LWp.exit ?_
    | refine LWp.ret ?_
    | refine LWp.skip ?_
    | refine LOps.val (LVal.move1 rfl rfl) rfl rfl rfl ?_
    | refine LOps.val (LVal.assign1 rfl rfl) rfl rfl rfl ?_
    | refine LOps.val (LVal.len hD rfl rfl rfl rfl) rfl rfl rfl ?_
    | refine LOps.val (LVal.lenStr hD rfl rfl rfl rfl) rfl rfl rfl ?_
    | refine LOps.val (LVal.add64 rfl rfl rfl (by omega)) rfl rfl rfl ?_
    | refine LOps.val (LVal.sub64 rfl rfl rfl (by omega)) rfl rfl rfl ?_
    | refine LOps.val (LVal.addU64 rfl rfl rfl (by omega)) rfl rfl rfl ?_
    | refine LOps.val (LVal.subU64 rfl rfl rfl (by omega)) rfl rfl rfl ?_
    | refine LOps.val (LVal.mulU64 rfl rfl rfl (by omega)) rfl rfl rfl ?_
    | refine LOps.val (LVal.remI rfl rfl rfl (by omega)) rfl rfl rfl ?_
    | refine LOps.val (LVal.quoU64 rfl rfl rfl (by omega)) rfl rfl rfl ?_
    | refine LOps.val (LVal.quo64 rfl rfl rfl (by omega)) rfl rfl rfl ?_
    | refine LOps.val (LVal.mul64 rfl rfl rfl (by omega)) rfl rfl rfl ?_
    | refine LOps.val (LVal.conv64 hD rfl rfl rfl rfl rfl (by omega)) rfl rfl rfl ?_
    | refine LOps.val (LVal.convU64 hD rfl rfl rfl rfl rfl (by omega)) rfl rfl rfl ?_
    | refine LOps.val (LVal.neqSame hD rfl rfl rfl) rfl rfl rfl ?_
    | refine LOps.val (LVal.neqSameB hD rfl rfl rfl rfl rfl) rfl rfl rfl ?_
    | refine LOps.val (LVal.binOp hD rfl rfl rfl rfl) rfl rfl rfl ?_
    | refine LOps.val (LVal.unOp rfl rfl rfl) rfl rfl rfl ?_
    | refine LOps.val (LVal.pick rfl rfl) rfl rfl rfl ?_
    | refine LOps.val (LVal.extract rfl rfl rfl) rfl rfl rfl ?_
    | refine LOps.val (LVal.convInt hD rfl rfl rfl rfl rfl) rfl rfl rfl ?_
    | refine LOps.val (LVal.fieldAddr hD rfl rfl rfl rfl rfl rfl (by decide)) rfl rfl rfl ?_
    | refine LOps.val (LVal.load hD rfl rfl (by first | assumption | exact box_new _ _ _ | exact box_set _ _ _ | (simp only [box_new, box_set, box_row, box_new_ne, box_set_ne, ne_eq, not_false_eq_true, *]; done) | (simp only [box_new, box_set, box_row, box_new_ne, box_set_ne, ne_eq, not_false_eq_true, *]; rfl)) rfl rfl) rfl rfl rfl ?_
    | refine LOps.val (LVal.indexMap hD rfl rfl rfl rfl rfl rfl (by first | assumption | omega) rfl) rfl rfl rfl ?_
    | refine LOps.val (LVal.loadRo hD rfl rfl rfl rfl) rfl rfl rfl ?_
    | refine LOps.val (LVal.fieldAddrRo hD rfl rfl rfl rfl rfl rfl (by decide)) rfl rfl rfl ?_
    | refine LOps.val (LVal.field hD rfl rfl rfl rfl rfl rfl rfl) rfl rfl rfl ?_
    | refine LOps.val (LVal.buildSlice1 hD rfl rfl rfl rfl rfl rfl rfl rfl rfl rfl) rfl rfl rfl ?_
    | refine LOps.val (LVal.build hD rfl rfl rfl rfl rfl rfl rfl) rfl rfl rfl ?_
    | refine LOps.val (LVal.buildSlice hD rfl rfl rfl rfl rfl rfl rfl rfl rfl rfl) rfl rfl rfl ?_
    | refine LOps.val (LVal.takeMap hD rfl rfl rfl rfl rfl rfl (by first | assumption | omega) rfl (fun _ _ => rfl)) rfl rfl rfl ?_
    | refine LOps.val (LVal.dropMap hD rfl rfl rfl rfl rfl rfl (by first | assumption | omega) rfl (fun _ _ => rfl)) rfl rfl rfl ?_
    | refine LOps.val (LVal.cutMap hD rfl rfl rfl rfl rfl rfl rfl (by first | assumption | omega) (by first | assumption | omega) rfl (fun _ _ => rfl)) rfl rfl rfl ?_
    | refine LOps.val (LVal.move2 rfl rfl) rfl rfl rfl ?_
    | refine LOps.val (LVal.assign2 rfl rfl) rfl rfl rfl ?_
    | refine LOps.val (LVal.move (.inl rfl)) rfl rfl rfl ?_
    | refine LOps.val (LVal.move (.inr rfl)) rfl rfl rfl ?_
    | refine LOps.out rfl rfl rfl ?_
    | refine LOps.valG (LVal.move1 rfl rfl) rfl rfl rfl ?_
    | refine LOps.valG (LVal.assign1 rfl rfl) rfl rfl rfl ?_
    | refine LOps.valG (LVal.len hD rfl rfl rfl rfl) rfl rfl rfl ?_
    | refine LOps.valG (LVal.lenStr hD rfl rfl rfl rfl) rfl rfl rfl ?_
    | refine LOps.valG (LVal.add64 rfl rfl rfl (by omega)) rfl rfl rfl ?_
    | refine LOps.valG (LVal.sub64 rfl rfl rfl (by omega)) rfl rfl rfl ?_
    | refine LOps.valG (LVal.addU64 rfl rfl rfl (by omega)) rfl rfl rfl ?_
    | refine LOps.valG (LVal.subU64 rfl rfl rfl (by omega)) rfl rfl rfl ?_
    | refine LOps.valG (LVal.mulU64 rfl rfl rfl (by omega)) rfl rfl rfl ?_
    | refine LOps.valG (LVal.remI rfl rfl rfl (by omega)) rfl rfl rfl ?_
    | refine LOps.valG (LVal.quoU64 rfl rfl rfl (by omega)) rfl rfl rfl ?_
    | refine LOps.valG (LVal.quo64 rfl rfl rfl (by omega)) rfl rfl rfl ?_
    | refine LOps.valG (LVal.mul64 rfl rfl rfl (by omega)) rfl rfl rfl ?_
    | refine LOps.valG (LVal.conv64 hD rfl rfl rfl rfl rfl (by omega)) rfl rfl rfl ?_
    | refine LOps.valG (LVal.convU64 hD rfl rfl rfl rfl rfl (by omega)) rfl rfl rfl ?_
    | refine LOps.valG (LVal.neqSame hD rfl rfl rfl) rfl rfl rfl ?_
    | refine LOps.valG (LVal.neqSameB hD rfl rfl rfl rfl rfl) rfl rfl rfl ?_
    | refine LOps.valG (LVal.binOp hD rfl rfl rfl rfl) rfl rfl rfl ?_
    | refine LOps.valG (LVal.unOp rfl rfl rfl) rfl rfl rfl ?_
    | refine LOps.valG (LVal.pick rfl rfl) rfl rfl rfl ?_
    | refine LOps.valG (LVal.extract rfl rfl rfl) rfl rfl rfl ?_
    | refine LOps.valG (LVal.convInt hD rfl rfl rfl rfl rfl) rfl rfl rfl ?_
    | refine LOps.valG (LVal.fieldAddr hD rfl rfl rfl rfl rfl rfl (by decide)) rfl rfl rfl ?_
    | refine LOps.valG (LVal.load hD rfl rfl (by first | assumption | exact box_new _ _ _ | exact box_set _ _ _ | (simp only [box_new, box_set, box_row, box_new_ne, box_set_ne, ne_eq, not_false_eq_true, *]; done) | (simp only [box_new, box_set, box_row, box_new_ne, box_set_ne, ne_eq, not_false_eq_true, *]; rfl)) rfl rfl) rfl rfl rfl ?_
    | refine LOps.valG (LVal.indexMap hD rfl rfl rfl rfl rfl rfl (by first | assumption | omega) rfl) rfl rfl rfl ?_
    | refine LOps.valG (LVal.loadRo hD rfl rfl rfl rfl) rfl rfl rfl ?_
    | refine LOps.valG (LVal.fieldAddrRo hD rfl rfl rfl rfl rfl rfl (by decide)) rfl rfl rfl ?_
    | refine LOps.valG (LVal.field hD rfl rfl rfl rfl rfl rfl rfl) rfl rfl rfl ?_
    | refine LOps.valG (LVal.buildSlice1 hD rfl rfl rfl rfl rfl rfl rfl rfl rfl rfl) rfl rfl rfl ?_
    | refine LOps.valG (LVal.build hD rfl rfl rfl rfl rfl rfl rfl) rfl rfl rfl ?_
    | refine LOps.valG (LVal.buildSlice hD rfl rfl rfl rfl rfl rfl rfl rfl rfl rfl) rfl rfl rfl ?_
    | refine LOps.valG (LVal.takeMap hD rfl rfl rfl rfl rfl rfl (by first | assumption | omega) rfl (fun _ _ => rfl)) rfl rfl rfl ?_
    | refine LOps.valG (LVal.dropMap hD rfl rfl rfl rfl rfl rfl (by first | assumption | omega) rfl (fun _ _ => rfl)) rfl rfl rfl ?_
    | refine LOps.valG (LVal.cutMap hD rfl rfl rfl rfl rfl rfl rfl (by first | assumption | omega) (by first | assumption | omega) rfl (fun _ _ => rfl)) rfl rfl rfl ?_
    | refine LOps.valG (LVal.move2 rfl rfl) rfl rfl rfl ?_
    | refine LOps.valG (LVal.assign2 rfl rfl) rfl rfl rfl ?_
    | refine LOps.valG (LVal.move (.inl rfl)) rfl rfl rfl ?_
    | refine LOps.valG (LVal.move (.inr rfl)) rfl rfl rfl ?_
    | (refine LOps.do0 (LDo.store hD rfl rfl (by first | assumption | exact box_new _ _ _ | exact box_set _ _ _ | (simp only [box_new, box_set, box_row, box_new_ne, box_set_ne, ne_eq, not_false_eq_true, *]; done) | (simp only [box_new, box_set, box_row, box_new_ne, box_set_ne, ne_eq, not_false_eq_true, *]; rfl)) rfl rfl rfl rfl) rfl rfl ?_; rintro _ _ ⟨rfl, rfl⟩))
  refine LOps.do (LDo.alloc hD rfl rfl rfl) rfl rfl rfl ?_
  rintro _ _ ⟨bw, hbw, rfl, rfl⟩
  have hbw0 : S.box bw = none := by have := hbw.box; rwa [box_new_ne _ _ (fresh_ne hbw (box_new _ _ _)).symm] at this
  repeat (first
    | refine LOps.nil ?_
    | refine andThen_normal ?_
    | refine andThen_exit ?_
    | refine andThen_ret ?_
    | refine inBlock_normal ?_
    | refine inBlock_ret ?_
    | refine inBlock_here ?_
    | refine inBlock_out rfl ?_
    | refine LWp.seq ?_
    | refine LWp.region ?_
    | refine LWp.block ?_
    | refine LWp.exit ?_
    | refine LWp.ret ?_
    | refine LWp.skip ?_
    | refine LOps.val (LVal.move1 rfl rfl) rfl rfl rfl ?_
    | refine LOps.val (LVal.assign1 rfl rfl) rfl rfl rfl ?_
    | refine LOps.val (LVal.len hD rfl rfl rfl rfl) rfl rfl rfl ?_
    | refine LOps.val (LVal.lenStr hD rfl rfl rfl rfl) rfl rfl rfl ?_
    | refine LOps.val (LVal.add64 rfl rfl rfl (by omega)) rfl rfl rfl ?_
    | refine LOps.val (LVal.sub64 rfl rfl rfl (by omega)) rfl rfl rfl ?_
    | refine LOps.val (LVal.addU64 rfl rfl rfl (by omega)) rfl rfl rfl ?_
    | refine LOps.val (LVal.subU64 rfl rfl rfl (by omega)) rfl rfl rfl ?_
    | refine LOps.val (LVal.mulU64 rfl rfl rfl (by omega)) rfl rfl rfl ?_
    | refine LOps.val (LVal.remI rfl rfl rfl (by omega)) rfl rfl rfl ?_
    | refine LOps.val (LVal.quoU64 rfl rfl rfl (by omega)) rfl rfl rfl ?_
    | refine LOps.val (LVal.quo64 rfl rfl rfl (by omega)) rfl rfl rfl ?_
    | refine LOps.val (LVal.mul64 rfl rfl rfl (by omega)) rfl rfl rfl ?_
    | refine LOps.val (LVal.conv64 hD rfl rfl rfl rfl rfl (by omega)) rfl rfl rfl ?_
    | refine LOps.val (LVal.convU64 hD rfl rfl rfl rfl rfl (by omega)) rfl rfl rfl ?_
    | refine LOps.val (LVal.neqSame hD rfl rfl rfl) rfl rfl rfl ?_
    | refine LOps.val (LVal.neqSameB hD rfl rfl rfl rfl rfl) rfl rfl rfl ?_
    | refine LOps.val (LVal.binOp hD rfl rfl rfl rfl) rfl rfl rfl ?_
    | refine LOps.val (LVal.unOp rfl rfl rfl) rfl rfl rfl ?_
    | refine LOps.val (LVal.pick rfl rfl) rfl rfl rfl ?_
    | refine LOps.val (LVal.extract rfl rfl rfl) rfl rfl rfl ?_
    | refine LOps.val (LVal.convInt hD rfl rfl rfl rfl rfl) rfl rfl rfl ?_
    | refine LOps.val (LVal.fieldAddr hD rfl rfl rfl rfl rfl rfl (by decide)) rfl rfl rfl ?_
    | refine LOps.val (LVal.load hD rfl rfl (by first | assumption | exact box_new _ _ _ | exact box_set _ _ _ | (simp only [box_new, box_set, box_row, box_new_ne, box_set_ne, ne_eq, not_false_eq_true, *]; done) | (simp only [box_new, box_set, box_row, box_new_ne, box_set_ne, ne_eq, not_false_eq_true, *]; rfl)) rfl rfl) rfl rfl rfl ?_
    | refine LOps.val (LVal.indexMap hD rfl rfl rfl rfl rfl rfl (by first | assumption | omega) rfl) rfl rfl rfl ?_
    | refine LOps.val (LVal.loadRo hD rfl rfl rfl rfl) rfl rfl rfl ?_
    | refine LOps.val (LVal.fieldAddrRo hD rfl rfl rfl rfl rfl rfl (by decide)) rfl rfl rfl ?_
    | refine LOps.val (LVal.field hD rfl rfl rfl rfl rfl rfl rfl) rfl rfl rfl ?_
    | refine LOps.val (LVal.buildSlice1 hD rfl rfl rfl rfl rfl rfl rfl rfl rfl rfl) rfl rfl rfl ?_
    | refine LOps.val (LVal.build hD rfl rfl rfl rfl rfl rfl rfl) rfl rfl rfl ?_
    | refine LOps.val (LVal.buildSlice hD rfl rfl rfl rfl rfl rfl rfl rfl rfl rfl) rfl rfl rfl ?_
    | refine LOps.val (LVal.takeMap hD rfl rfl rfl rfl rfl rfl (by first | assumption | omega) rfl (fun _ _ => rfl)) rfl rfl rfl ?_
    | refine LOps.val (LVal.dropMap hD rfl rfl rfl rfl rfl rfl (by first | assumption | omega) rfl (fun _ _ => rfl)) rfl rfl rfl ?_
    | refine LOps.val (LVal.cutMap hD rfl rfl rfl rfl rfl rfl rfl (by first | assumption | omega) (by first | assumption | omega) rfl (fun _ _ => rfl)) rfl rfl rfl ?_
    | refine LOps.val (LVal.move2 rfl rfl) rfl rfl rfl ?_
    | refine LOps.val (LVal.assign2 rfl rfl) rfl rfl rfl ?_
    | refine LOps.val (LVal.move (.inl rfl)) rfl rfl rfl ?_
    | refine LOps.val (LVal.move (.inr rfl)) rfl rfl rfl ?_
    | refine LOps.out rfl rfl rfl ?_
    | refine LOps.valG (LVal.move1 rfl rfl) rfl rfl rfl ?_
    | refine LOps.valG (LVal.assign1 rfl rfl) rfl rfl rfl ?_
    | refine LOps.valG (LVal.len hD rfl rfl rfl rfl) rfl rfl rfl ?_
    | refine LOps.valG (LVal.lenStr hD rfl rfl rfl rfl) rfl rfl rfl ?_
    | refine LOps.valG (LVal.add64 rfl rfl rfl (by omega)) rfl rfl rfl ?_
    | refine LOps.valG (LVal.sub64 rfl rfl rfl (by omega)) rfl rfl rfl ?_
    | refine LOps.valG (LVal.addU64 rfl rfl rfl (by omega)) rfl rfl rfl ?_
    | refine LOps.valG (LVal.subU64 rfl rfl rfl (by omega)) rfl rfl rfl ?_
    | refine LOps.valG (LVal.mulU64 rfl rfl rfl (by omega)) rfl rfl rfl ?_
    | refine LOps.valG (LVal.remI rfl rfl rfl (by omega)) rfl rfl rfl ?_
    | refine LOps.valG (LVal.quoU64 rfl rfl rfl (by omega)) rfl rfl rfl ?_
    | refine LOps.valG (LVal.quo64 rfl rfl rfl (by omega)) rfl rfl rfl ?_
    | refine LOps.valG (LVal.mul64 rfl rfl rfl (by omega)) rfl rfl rfl ?_
    | refine LOps.valG (LVal.conv64 hD rfl rfl rfl rfl rfl (by omega)) rfl rfl rfl ?_
    | refine LOps.valG (LVal.convU64 hD rfl rfl rfl rfl rfl (by omega)) rfl rfl rfl ?_
    | refine LOps.valG (LVal.neqSame hD rfl rfl rfl) rfl rfl rfl ?_
    | refine LOps.valG (LVal.neqSameB hD rfl rfl rfl rfl rfl) rfl rfl rfl ?_
    | refine LOps.valG (LVal.binOp hD rfl rfl rfl rfl) rfl rfl rfl ?_
    | refine LOps.valG (LVal.unOp rfl rfl rfl) rfl rfl rfl ?_
    | refine LOps.valG (LVal.pick rfl rfl) rfl rfl rfl ?_
    | refine LOps.valG (LVal.extract rfl rfl rfl) rfl rfl rfl ?_
    | refine LOps.valG (LVal.convInt hD rfl rfl rfl rfl rfl) rfl rfl rfl ?_
    | refine LOps.valG (LVal.fieldAddr hD rfl rfl rfl rfl rfl rfl (by decide)) rfl rfl rfl ?_
    | refine LOps.valG (LVal.load hD rfl rfl (by first | assumption | exact box_new _ _ _ | exact box_set _ _ _ | (simp only [box_new, box_set, box_row, box_new_ne, box_set_ne, ne_eq, not_false_eq_true, *]; done) | (simp only [box_new, box_set, box_row, box_new_ne, box_set_ne, ne_eq, not_false_eq_true, *]; rfl)) rfl rfl) rfl rfl rfl ?_
    | refine LOps.valG (LVal.indexMap hD rfl rfl rfl rfl rfl rfl (by first | assumption | omega) rfl) rfl rfl rfl ?_
    | refine LOps.valG (LVal.loadRo hD rfl rfl rfl rfl) rfl rfl rfl ?_
    | refine LOps.valG (LVal.fieldAddrRo hD rfl rfl rfl rfl rfl rfl (by decide)) rfl rfl rfl ?_
    | refine LOps.valG (LVal.field hD rfl rfl rfl rfl rfl rfl rfl) rfl rfl rfl ?_
    | refine LOps.valG (LVal.buildSlice1 hD rfl rfl rfl rfl rfl rfl rfl rfl rfl rfl) rfl rfl rfl ?_
    | refine LOps.valG (LVal.build hD rfl rfl rfl rfl rfl rfl rfl) rfl rfl rfl ?_
    | refine LOps.valG (LVal.buildSlice hD rfl rfl rfl rfl rfl rfl rfl rfl rfl rfl) rfl rfl rfl ?_
    | refine LOps.valG (LVal.takeMap hD rfl rfl rfl rfl rfl rfl (by first | assumption | omega) rfl (fun _ _ => rfl)) rfl rfl rfl ?_
    | refine LOps.valG (LVal.dropMap hD rfl rfl rfl rfl rfl rfl (by first | assumption | omega) rfl (fun _ _ => rfl)) rfl rfl rfl ?_
    | refine LOps.valG (LVal.cutMap hD rfl rfl rfl rfl rfl rfl rfl (by first | assumption | omega) (by first | assumption | omega) rfl (fun _ _ => rfl)) rfl rfl rfl ?_
    | refine LOps.valG (LVal.move2 rfl rfl) rfl rfl rfl ?_
    | refine LOps.valG (LVal.assign2 rfl rfl) rfl rfl rfl ?_
    | refine LOps.valG (LVal.move (.inl rfl)) rfl rfl rfl ?_
    | refine LOps.valG (LVal.move (.inr rfl)) rfl rfl rfl ?_
    | (refine LOps.do0 (LDo.store hD rfl rfl (by first | assumption | exact box_new _ _ _ | exact box_set _ _ _ | (simp only [box_new, box_set, box_row, box_new_ne, box_set_ne, ne_eq, not_false_eq_true, *]; done) | (simp only [box_new, box_set, box_row, box_new_ne, box_set_ne, ne_eq, not_false_eq_true, *]; rfl)) rfl rfl rfl rfl) rfl rfl ?_; rintro _ _ ⟨rfl, rfl⟩))
  have hne : br ≠ bw := fresh_ne hbw (box_new _ _ _)
  refine LWp.loop (fun r T S' => ∃ T' k ou of_, k ≤ 15 ∧ r = 15 - k ∧ (L.take k).Nodup ∧ (∀ x ∈ L.take k, x < 15) ∧ S.le S' ∧ S'.box br = some [.sl .nil [], .sl .nil []] ∧
    S'.box bw = some [.sl ou (iList ((L.take k).take n)), .sl of_ (iList ((L.take k).drop n))] ∧ Owned S' 3 ((L.take k).take n).length ou ∧ Owned S' 3 ((L.take k).drop n).length of_ ∧ Out S ou ∧ Out S of_ ∧ (∀ b, ou = .own b → of_ ≠ .own b) ∧
    T = over T' [(0, .one (.v (.int .u64 ((p / 16 ^ k : Nat) : Int)))), (2, .one (.v (.pointer (some ⟨br, 0, none⟩)))), (4, .one (iv n)), (5, .one (.v (.pointer (some ⟨bw, 0, none⟩)))), (6, .one (iv k))]) 15 ?_ ?_
  · refine ⟨_, 0, .nil, .nil, by omega, by omega, by simp, by simp, ((LS.le.refl S).newBox hbr _).newBox hbw _, ?_, ?_, by simp [Owned], by simp [Owned], by simp [Out], by simp [Out], by simp, holds.over ⟨?_, rfl, ?_, rfl, rfl, trivial⟩⟩
    · rw [box_new_ne _ _ hne]; exact box_new _ _ _
    · rw [box_new]; simp [iList]; rfl
    · simp; rfl
    · rw [hn]; rfl
  rintro r T S' ⟨T', k, ou, of_, hk, rfl, hnd, hbd, hle, hb1, hb2, ho1, ho2, hx1, hx2, hdis, rfl⟩
  obtain ⟨q, hq⟩ : ∃ q, q = p / 16 ^ k := ⟨_, rfl⟩
  have hqb : q < 18446744073709551616 := by rw [hq]; exact Nat.lt_of_le_of_lt (Nat.div_le_self _ _) hp
  rw [← hq]
  repeat (first
    | refine LOps.nil ?_
    | refine andThen_normal ?_
    | refine andThen_exit ?_
    | refine andThen_ret ?_
    | refine inBlock_normal ?_
    | refine inBlock_ret ?_
    | refine inBlock_here ?_
    | refine inBlock_out rfl ?_
    | refine LWp.seq ?_
    | refine LWp.region ?_
    | refine LWp.block ?_
    | refine LWp.exit ?_
    | refine LWp.ret ?_
    | refine LWp.skip ?_
    | refine LOps.val (LVal.move1 rfl rfl) rfl rfl rfl ?_
    | refine LOps.val (LVal.assign1 rfl rfl) rfl rfl rfl ?_
    | refine LOps.val (LVal.len hD rfl rfl rfl rfl) rfl rfl rfl ?_
    | refine LOps.val (LVal.lenStr hD rfl rfl rfl rfl) rfl rfl rfl ?_
    | refine LOps.val (LVal.add64 rfl rfl rfl (by omega)) rfl rfl rfl ?_
    | refine LOps.val (LVal.sub64 rfl rfl rfl (by omega)) rfl rfl rfl ?_
    | refine LOps.val (LVal.addU64 rfl rfl rfl (by omega)) rfl rfl rfl ?_
    | refine LOps.val (LVal.subU64 rfl rfl rfl (by omega)) rfl rfl rfl ?_
    | refine LOps.val (LVal.mulU64 rfl rfl rfl (by omega)) rfl rfl rfl ?_
    | refine LOps.val (LVal.remI rfl rfl rfl (by omega)) rfl rfl rfl ?_
    | refine LOps.val (LVal.quoU64 rfl rfl rfl (by omega)) rfl rfl rfl ?_
    | refine LOps.val (LVal.quo64 rfl rfl rfl (by omega)) rfl rfl rfl ?_
    | refine LOps.val (LVal.mul64 rfl rfl rfl (by omega)) rfl rfl rfl ?_
    | refine LOps.val (LVal.conv64 hD rfl rfl rfl rfl rfl (by omega)) rfl rfl rfl ?_
    | refine LOps.val (LVal.convU64 hD rfl rfl rfl rfl rfl (by omega)) rfl rfl rfl ?_
    | refine LOps.val (LVal.neqSame hD rfl rfl rfl) rfl rfl rfl ?_
    | refine LOps.val (LVal.neqSameB hD rfl rfl rfl rfl rfl) rfl rfl rfl ?_
    | refine LOps.val (LVal.binOp hD rfl rfl rfl rfl) rfl rfl rfl ?_
    | refine LOps.val (LVal.unOp rfl rfl rfl) rfl rfl rfl ?_
    | refine LOps.val (LVal.pick rfl rfl) rfl rfl rfl ?_
    | refine LOps.val (LVal.extract rfl rfl rfl) rfl rfl rfl ?_
    | refine LOps.val (LVal.convInt hD rfl rfl rfl rfl rfl) rfl rfl rfl ?_
    | refine LOps.val (LVal.fieldAddr hD rfl rfl rfl rfl rfl rfl (by decide)) rfl rfl rfl ?_
    | refine LOps.val (LVal.load hD rfl rfl (by first | assumption | exact box_new _ _ _ | exact box_set _ _ _ | (simp only [box_new, box_set, box_row, box_new_ne, box_set_ne, ne_eq, not_false_eq_true, *]; done) | (simp only [box_new, box_set, box_row, box_new_ne, box_set_ne, ne_eq, not_false_eq_true, *]; rfl)) rfl rfl) rfl rfl rfl ?_
    | refine LOps.val (LVal.indexMap hD rfl rfl rfl rfl rfl rfl (by first | assumption | omega) rfl) rfl rfl rfl ?_
    | refine LOps.val (LVal.loadRo hD rfl rfl rfl rfl) rfl rfl rfl ?_
    | refine LOps.val (LVal.fieldAddrRo hD rfl rfl rfl rfl rfl rfl (by decide)) rfl rfl rfl ?_
    | refine LOps.val (LVal.field hD rfl rfl rfl rfl rfl rfl rfl) rfl rfl rfl ?_
    | refine LOps.val (LVal.buildSlice1 hD rfl rfl rfl rfl rfl rfl rfl rfl rfl rfl) rfl rfl rfl ?_
    | refine LOps.val (LVal.build hD rfl rfl rfl rfl rfl rfl rfl) rfl rfl rfl ?_
    | refine LOps.val (LVal.buildSlice hD rfl rfl rfl rfl rfl rfl rfl rfl rfl rfl) rfl rfl rfl ?_
    | refine LOps.val (LVal.takeMap hD rfl rfl rfl rfl rfl rfl (by first | assumption | omega) rfl (fun _ _ => rfl)) rfl rfl rfl ?_
    | refine LOps.val (LVal.dropMap hD rfl rfl rfl rfl rfl rfl (by first | assumption | omega) rfl (fun _ _ => rfl)) rfl rfl rfl ?_
    | refine LOps.val (LVal.cutMap hD rfl rfl rfl rfl rfl rfl rfl (by first | assumption | omega) (by first | assumption | omega) rfl (fun _ _ => rfl)) rfl rfl rfl ?_
    | refine LOps.val (LVal.move2 rfl rfl) rfl rfl rfl ?_
    | refine LOps.val (LVal.assign2 rfl rfl) rfl rfl rfl ?_
    | refine LOps.val (LVal.move (.inl rfl)) rfl rfl rfl ?_
    | refine LOps.val (LVal.move (.inr rfl)) rfl rfl rfl ?_
    | refine LOps.out rfl rfl rfl ?_
    | refine LOps.valG (LVal.move1 rfl rfl) rfl rfl rfl ?_
    | refine LOps.valG (LVal.assign1 rfl rfl) rfl rfl rfl ?_
    | refine LOps.valG (LVal.len hD rfl rfl rfl rfl) rfl rfl rfl ?_
    | refine LOps.valG (LVal.lenStr hD rfl rfl rfl rfl) rfl rfl rfl ?_
    | refine LOps.valG (LVal.add64 rfl rfl rfl (by omega)) rfl rfl rfl ?_
    | refine LOps.valG (LVal.sub64 rfl rfl rfl (by omega)) rfl rfl rfl ?_
    | refine LOps.valG (LVal.addU64 rfl rfl rfl (by omega)) rfl rfl rfl ?_
    | refine LOps.valG (LVal.subU64 rfl rfl rfl (by omega)) rfl rfl rfl ?_
    | refine LOps.valG (LVal.mulU64 rfl rfl rfl (by omega)) rfl rfl rfl ?_
    | refine LOps.valG (LVal.remI rfl rfl rfl (by omega)) rfl rfl rfl ?_
    | refine LOps.valG (LVal.quoU64 rfl rfl rfl (by omega)) rfl rfl rfl ?_
    | refine LOps.valG (LVal.quo64 rfl rfl rfl (by omega)) rfl rfl rfl ?_
    | refine LOps.valG (LVal.mul64 rfl rfl rfl (by omega)) rfl rfl rfl ?_
    | refine LOps.valG (LVal.conv64 hD rfl rfl rfl rfl rfl (by omega)) rfl rfl rfl ?_
    | refine LOps.valG (LVal.convU64 hD rfl rfl rfl rfl rfl (by omega)) rfl rfl rfl ?_
    | refine LOps.valG (LVal.neqSame hD rfl rfl rfl) rfl rfl rfl ?_
    | refine LOps.valG (LVal.neqSameB hD rfl rfl rfl rfl rfl) rfl rfl rfl ?_
    | refine LOps.valG (LVal.binOp hD rfl rfl rfl rfl) rfl rfl rfl ?_
    | refine LOps.valG (LVal.unOp rfl rfl rfl) rfl rfl rfl ?_
    | refine LOps.valG (LVal.pick rfl rfl) rfl rfl rfl ?_
    | refine LOps.valG (LVal.extract rfl rfl rfl) rfl rfl rfl ?_
    | refine LOps.valG (LVal.convInt hD rfl rfl rfl rfl rfl) rfl rfl rfl ?_
    | refine LOps.valG (LVal.fieldAddr hD rfl rfl rfl rfl rfl rfl (by decide)) rfl rfl rfl ?_
    | refine LOps.valG (LVal.load hD rfl rfl (by first | assumption | exact box_new _ _ _ | exact box_set _ _ _ | (simp only [box_new, box_set, box_row, box_new_ne, box_set_ne, ne_eq, not_false_eq_true, *]; done) | (simp only [box_new, box_set, box_row, box_new_ne, box_set_ne, ne_eq, not_false_eq_true, *]; rfl)) rfl rfl) rfl rfl rfl ?_
    | refine LOps.valG (LVal.indexMap hD rfl rfl rfl rfl rfl rfl (by first | assumption | omega) rfl) rfl rfl rfl ?_
    | refine LOps.valG (LVal.loadRo hD rfl rfl rfl rfl) rfl rfl rfl ?_
    | refine LOps.valG (LVal.fieldAddrRo hD rfl rfl rfl rfl rfl rfl (by decide)) rfl rfl rfl ?_
    | refine LOps.valG (LVal.field hD rfl rfl rfl rfl rfl rfl rfl) rfl rfl rfl ?_
    | refine LOps.valG (LVal.buildSlice1 hD rfl rfl rfl rfl rfl rfl rfl rfl rfl rfl) rfl rfl rfl ?_
    | refine LOps.valG (LVal.build hD rfl rfl rfl rfl rfl rfl rfl) rfl rfl rfl ?_
    | refine LOps.valG (LVal.buildSlice hD rfl rfl rfl rfl rfl rfl rfl rfl rfl rfl) rfl rfl rfl ?_
    | refine LOps.valG (LVal.takeMap hD rfl rfl rfl rfl rfl rfl (by first | assumption | omega) rfl (fun _ _ => rfl)) rfl rfl rfl ?_
    | refine LOps.valG (LVal.dropMap hD rfl rfl rfl rfl rfl rfl (by first | assumption | omega) rfl (fun _ _ => rfl)) rfl rfl rfl ?_
    | refine LOps.valG (LVal.cutMap hD rfl rfl rfl rfl rfl rfl rfl (by first | assumption | omega) (by first | assumption | omega) rfl (fun _ _ => rfl)) rfl rfl rfl ?_
    | refine LOps.valG (LVal.move2 rfl rfl) rfl rfl rfl ?_
    | refine LOps.valG (LVal.assign2 rfl rfl) rfl rfl rfl ?_
    | refine LOps.valG (LVal.move (.inl rfl)) rfl rfl rfl ?_
    | refine LOps.valG (LVal.move (.inr rfl)) rfl rfl rfl ?_
    | (refine LOps.do0 (LDo.store hD rfl rfl (by first | assumption | exact box_new _ _ _ | exact box_set _ _ _ | (simp only [box_new, box_set, box_row, box_new_ne, box_set_ne, ne_eq, not_false_eq_true, *]; done) | (simp only [box_new, box_set, box_row, box_new_ne, box_set_ne, ne_eq, not_false_eq_true, *]; rfl)) rfl rfl rfl rfl) rfl rfl ?_; rintro _ _ ⟨rfl, rfl⟩))
  refine LWp.cond rfl (fun h => ?_) (fun h => ?_)
  · have hlt : k < 15 := by have := of_decide_eq_true h; omega
    repeat (first
      | refine LOps.nil ?_
      | refine andThen_normal ?_
      | refine andThen_exit ?_
      | refine andThen_ret ?_
      | refine inBlock_normal ?_
      | refine inBlock_ret ?_
      | refine inBlock_here ?_
      | refine inBlock_out rfl ?_
      | refine LWp.seq ?_
      | refine LWp.region ?_
      | refine LWp.block ?_
      | refine LWp.exit ?_
      | refine LWp.ret ?_
      | refine LWp.skip ?_
      | refine LOps.val (LVal.move1 rfl rfl) rfl rfl rfl ?_
      | refine LOps.val (LVal.assign1 rfl rfl) rfl rfl rfl ?_
      | refine LOps.val (LVal.len hD rfl rfl rfl rfl) rfl rfl rfl ?_
      | refine LOps.val (LVal.lenStr hD rfl rfl rfl rfl) rfl rfl rfl ?_
      | refine LOps.val (LVal.add64 rfl rfl rfl (by omega)) rfl rfl rfl ?_
      | refine LOps.val (LVal.sub64 rfl rfl rfl (by omega)) rfl rfl rfl ?_
      | refine LOps.val (LVal.addU64 rfl rfl rfl (by omega)) rfl rfl rfl ?_
      | refine LOps.val (LVal.subU64 rfl rfl rfl (by omega)) rfl rfl rfl ?_
      | refine LOps.val (LVal.mulU64 rfl rfl rfl (by omega)) rfl rfl rfl ?_
      | refine LOps.val (LVal.remI rfl rfl rfl (by omega)) rfl rfl rfl ?_
      | refine LOps.val (LVal.quoU64 rfl rfl rfl (by omega)) rfl rfl rfl ?_
      | refine LOps.val (LVal.quo64 rfl rfl rfl (by omega)) rfl rfl rfl ?_
      | refine LOps.val (LVal.mul64 rfl rfl rfl (by omega)) rfl rfl rfl ?_
      | refine LOps.val (LVal.conv64 hD rfl rfl rfl rfl rfl (by omega)) rfl rfl rfl ?_
      | refine LOps.val (LVal.convU64 hD rfl rfl rfl rfl rfl (by omega)) rfl rfl rfl ?_
      | refine LOps.val (LVal.neqSame hD rfl rfl rfl) rfl rfl rfl ?_
      | refine LOps.val (LVal.neqSameB hD rfl rfl rfl rfl rfl) rfl rfl rfl ?_
      | refine LOps.val (LVal.binOp hD rfl rfl rfl rfl) rfl rfl rfl ?_
      | refine LOps.val (LVal.unOp rfl rfl rfl) rfl rfl rfl ?_
      | refine LOps.val (LVal.pick rfl rfl) rfl rfl rfl ?_
      | refine LOps.val (LVal.extract rfl rfl rfl) rfl rfl rfl ?_
      | refine LOps.val (LVal.convInt hD rfl rfl rfl rfl rfl) rfl rfl rfl ?_
      | refine LOps.val (LVal.fieldAddr hD rfl rfl rfl rfl rfl rfl (by decide)) rfl rfl rfl ?_
      | refine LOps.val (LVal.load hD rfl rfl (by first | assumption | exact box_new _ _ _ | exact box_set _ _ _ | (simp only [box_new, box_set, box_row, box_new_ne, box_set_ne, ne_eq, not_false_eq_true, *]; done) | (simp only [box_new, box_set, box_row, box_new_ne, box_set_ne, ne_eq, not_false_eq_true, *]; rfl)) rfl rfl) rfl rfl rfl ?_
      | refine LOps.val (LVal.indexMap hD rfl rfl rfl rfl rfl rfl (by first | assumption | omega) rfl) rfl rfl rfl ?_
      | refine LOps.val (LVal.loadRo hD rfl rfl rfl rfl) rfl rfl rfl ?_
      | refine LOps.val (LVal.fieldAddrRo hD rfl rfl rfl rfl rfl rfl (by decide)) rfl rfl rfl ?_
      | refine LOps.val (LVal.field hD rfl rfl rfl rfl rfl rfl rfl) rfl rfl rfl ?_
      | refine LOps.val (LVal.buildSlice1 hD rfl rfl rfl rfl rfl rfl rfl rfl rfl rfl) rfl rfl rfl ?_
      | refine LOps.val (LVal.build hD rfl rfl rfl rfl rfl rfl rfl) rfl rfl rfl ?_
      | refine LOps.val (LVal.buildSlice hD rfl rfl rfl rfl rfl rfl rfl rfl rfl rfl) rfl rfl rfl ?_
      | refine LOps.val (LVal.takeMap hD rfl rfl rfl rfl rfl rfl (by first | assumption | omega) rfl (fun _ _ => rfl)) rfl rfl rfl ?_
      | refine LOps.val (LVal.dropMap hD rfl rfl rfl rfl rfl rfl (by first | assumption | omega) rfl (fun _ _ => rfl)) rfl rfl rfl ?_
      | refine LOps.val (LVal.cutMap hD rfl rfl rfl rfl rfl rfl rfl (by first | assumption | omega) (by first | assumption | omega) rfl (fun _ _ => rfl)) rfl rfl rfl ?_
      | refine LOps.val (LVal.move2 rfl rfl) rfl rfl rfl ?_
      | refine LOps.val (LVal.assign2 rfl rfl) rfl rfl rfl ?_
      | refine LOps.val (LVal.move (.inl rfl)) rfl rfl rfl ?_
      | refine LOps.val (LVal.move (.inr rfl)) rfl rfl rfl ?_
      | refine LOps.out rfl rfl rfl ?_
      | refine LOps.valG (LVal.move1 rfl rfl) rfl rfl rfl ?_
      | refine LOps.valG (LVal.assign1 rfl rfl) rfl rfl rfl ?_
      | refine LOps.valG (LVal.len hD rfl rfl rfl rfl) rfl rfl rfl ?_
      | refine LOps.valG (LVal.lenStr hD rfl rfl rfl rfl) rfl rfl rfl ?_
      | refine LOps.valG (LVal.add64 rfl rfl rfl (by omega)) rfl rfl rfl ?_
      | refine LOps.valG (LVal.sub64 rfl rfl rfl (by omega)) rfl rfl rfl ?_
      | refine LOps.valG (LVal.addU64 rfl rfl rfl (by omega)) rfl rfl rfl ?_
      | refine LOps.valG (LVal.subU64 rfl rfl rfl (by omega)) rfl rfl rfl ?_
      | refine LOps.valG (LVal.mulU64 rfl rfl rfl (by omega)) rfl rfl rfl ?_
      | refine LOps.valG (LVal.remI rfl rfl rfl (by omega)) rfl rfl rfl ?_
      | refine LOps.valG (LVal.quoU64 rfl rfl rfl (by omega)) rfl rfl rfl ?_
      | refine LOps.valG (LVal.quo64 rfl rfl rfl (by omega)) rfl rfl rfl ?_
      | refine LOps.valG (LVal.mul64 rfl rfl rfl (by omega)) rfl rfl rfl ?_
      | refine LOps.valG (LVal.conv64 hD rfl rfl rfl rfl rfl (by omega)) rfl rfl rfl ?_
      | refine LOps.valG (LVal.convU64 hD rfl rfl rfl rfl rfl (by omega)) rfl rfl rfl ?_
      | refine LOps.valG (LVal.neqSame hD rfl rfl rfl) rfl rfl rfl ?_
      | refine LOps.valG (LVal.neqSameB hD rfl rfl rfl rfl rfl) rfl rfl rfl ?_
      | refine LOps.valG (LVal.binOp hD rfl rfl rfl rfl) rfl rfl rfl ?_
      | refine LOps.valG (LVal.unOp rfl rfl rfl) rfl rfl rfl ?_
      | refine LOps.valG (LVal.pick rfl rfl) rfl rfl rfl ?_
      | refine LOps.valG (LVal.extract rfl rfl rfl) rfl rfl rfl ?_
      | refine LOps.valG (LVal.convInt hD rfl rfl rfl rfl rfl) rfl rfl rfl ?_
      | refine LOps.valG (LVal.fieldAddr hD rfl rfl rfl rfl rfl rfl (by decide)) rfl rfl rfl ?_
      | refine LOps.valG (LVal.load hD rfl rfl (by first | assumption | exact box_new _ _ _ | exact box_set _ _ _ | (simp only [box_new, box_set, box_row, box_new_ne, box_set_ne, ne_eq, not_false_eq_true, *]; done) | (simp only [box_new, box_set, box_row, box_new_ne, box_set_ne, ne_eq, not_false_eq_true, *]; rfl)) rfl rfl) rfl rfl rfl ?_
      | refine LOps.valG (LVal.indexMap hD rfl rfl rfl rfl rfl rfl (by first | assumption | omega) rfl) rfl rfl rfl ?_
      | refine LOps.valG (LVal.loadRo hD rfl rfl rfl rfl) rfl rfl rfl ?_
      | refine LOps.valG (LVal.fieldAddrRo hD rfl rfl rfl rfl rfl rfl (by decide)) rfl rfl rfl ?_
      | refine LOps.valG (LVal.field hD rfl rfl rfl rfl rfl rfl rfl) rfl rfl rfl ?_
      | refine LOps.valG (LVal.buildSlice1 hD rfl rfl rfl rfl rfl rfl rfl rfl rfl rfl) rfl rfl rfl ?_
      | refine LOps.valG (LVal.build hD rfl rfl rfl rfl rfl rfl rfl) rfl rfl rfl ?_
      | refine LOps.valG (LVal.buildSlice hD rfl rfl rfl rfl rfl rfl rfl rfl rfl rfl) rfl rfl rfl ?_
      | refine LOps.valG (LVal.takeMap hD rfl rfl rfl rfl rfl rfl (by first | assumption | omega) rfl (fun _ _ => rfl)) rfl rfl rfl ?_
      | refine LOps.valG (LVal.dropMap hD rfl rfl rfl rfl rfl rfl (by first | assumption | omega) rfl (fun _ _ => rfl)) rfl rfl rfl ?_
      | refine LOps.valG (LVal.cutMap hD rfl rfl rfl rfl rfl rfl rfl (by first | assumption | omega) (by first | assumption | omega) rfl (fun _ _ => rfl)) rfl rfl rfl ?_
      | refine LOps.valG (LVal.move2 rfl rfl) rfl rfl rfl ?_
      | refine LOps.valG (LVal.assign2 rfl rfl) rfl rfl rfl ?_
      | refine LOps.valG (LVal.move (.inl rfl)) rfl rfl rfl ?_
      | refine LOps.valG (LVal.move (.inr rfl)) rfl rfl rfl ?_
      | (refine LOps.do0 (LDo.store hD rfl rfl (by first | assumption | exact box_new _ _ _ | exact box_set _ _ _ | (simp only [box_new, box_set, box_row, box_new_ne, box_set_ne, ne_eq, not_false_eq_true, *]; done) | (simp only [box_new, box_set, box_row, box_new_ne, box_set_ne, ne_eq, not_false_eq_true, *]; rfl)) rfl rfl rfl rfl) rfl rfl ?_; rintro _ _ ⟨rfl, rfl⟩))
    have hx : L[k]? = some (q / 16 % 16) := by rw [hget k hlt, hq, Nat.pow_succ, Nat.div_div_eq_div_mul]
    have hq2 : p / 16 ^ (k + 1) = q / 16 := by rw [hq, Nat.pow_succ, Nat.div_div_eq_div_mul]
    have hbad : ∀ S'' : LS, S''.box br = some [.sl .nil [], .sl .nil []] → S.le S'' → ¬ Rt L → ∀ T, T 2 = .one (.v (.pointer (some ⟨br, 0, none⟩))) → T 3 = .one (.v (.bool false)) → LBody G Try.f18.ntmps Try.f18 (fun r S' => r = ofR p ∧ S.le S') .ret T S'' := by
      intro S'' h1 h2 h3 T h4 h5
      refine ⟨_, (LRes.many rfl rfl (.cons (.cell h4 h1 (hP ▸ tok40) rfl) (.cons (.tmp _) .nil))).sh, ?_, h2⟩
      rw [ofR_no (by rw [← hL]; exact h3), h5]
      rfl
    refine LOps.guard rfl rfl rfl (fun hg => ?_) (fun hg => ?_)
    · repeat (first
        | refine LOps.nil ?_
        | refine andThen_normal ?_
        | refine andThen_exit ?_
        | refine andThen_ret ?_
        | refine inBlock_normal ?_
        | refine inBlock_ret ?_
        | refine inBlock_here ?_
        | refine inBlock_out rfl ?_
        | refine LWp.seq ?_
        | refine LWp.region ?_
        | refine LWp.block ?_
        | refine LWp.exit ?_
        | refine LWp.ret ?_
        | refine LWp.skip ?_
        | refine LOps.val (LVal.move1 rfl rfl) rfl rfl rfl ?_
        | refine LOps.val (LVal.assign1 rfl rfl) rfl rfl rfl ?_
        | refine LOps.val (LVal.len hD rfl rfl rfl rfl) rfl rfl rfl ?_
        | refine LOps.val (LVal.lenStr hD rfl rfl rfl rfl) rfl rfl rfl ?_
        | refine LOps.val (LVal.add64 rfl rfl rfl (by omega)) rfl rfl rfl ?_
        | refine LOps.val (LVal.sub64 rfl rfl rfl (by omega)) rfl rfl rfl ?_
        | refine LOps.val (LVal.addU64 rfl rfl rfl (by omega)) rfl rfl rfl ?_
        | refine LOps.val (LVal.subU64 rfl rfl rfl (by omega)) rfl rfl rfl ?_
        | refine LOps.val (LVal.mulU64 rfl rfl rfl (by omega)) rfl rfl rfl ?_
        | refine LOps.val (LVal.remI rfl rfl rfl (by omega)) rfl rfl rfl ?_
        | refine LOps.val (LVal.quoU64 rfl rfl rfl (by omega)) rfl rfl rfl ?_
        | refine LOps.val (LVal.quo64 rfl rfl rfl (by omega)) rfl rfl rfl ?_
        | refine LOps.val (LVal.mul64 rfl rfl rfl (by omega)) rfl rfl rfl ?_
        | refine LOps.val (LVal.conv64 hD rfl rfl rfl rfl rfl (by omega)) rfl rfl rfl ?_
        | refine LOps.val (LVal.convU64 hD rfl rfl rfl rfl rfl (by omega)) rfl rfl rfl ?_
        | refine LOps.val (LVal.neqSame hD rfl rfl rfl) rfl rfl rfl ?_
        | refine LOps.val (LVal.neqSameB hD rfl rfl rfl rfl rfl) rfl rfl rfl ?_
        | refine LOps.val (LVal.binOp hD rfl rfl rfl rfl) rfl rfl rfl ?_
        | refine LOps.val (LVal.unOp rfl rfl rfl) rfl rfl rfl ?_
        | refine LOps.val (LVal.pick rfl rfl) rfl rfl rfl ?_
        | refine LOps.val (LVal.extract rfl rfl rfl) rfl rfl rfl ?_
        | refine LOps.val (LVal.convInt hD rfl rfl rfl rfl rfl) rfl rfl rfl ?_
        | refine LOps.val (LVal.fieldAddr hD rfl rfl rfl rfl rfl rfl (by decide)) rfl rfl rfl ?_
        | refine LOps.val (LVal.load hD rfl rfl (by first | assumption | exact box_new _ _ _ | exact box_set _ _ _ | (simp only [box_new, box_set, box_row, box_new_ne, box_set_ne, ne_eq, not_false_eq_true, *]; done) | (simp only [box_new, box_set, box_row, box_new_ne, box_set_ne, ne_eq, not_false_eq_true, *]; rfl)) rfl rfl) rfl rfl rfl ?_
        | refine LOps.val (LVal.indexMap hD rfl rfl rfl rfl rfl rfl (by first | assumption | omega) rfl) rfl rfl rfl ?_
        | refine LOps.val (LVal.loadRo hD rfl rfl rfl rfl) rfl rfl rfl ?_
        | refine LOps.val (LVal.fieldAddrRo hD rfl rfl rfl rfl rfl rfl (by decide)) rfl rfl rfl ?_
        | refine LOps.val (LVal.field hD rfl rfl rfl rfl rfl rfl rfl) rfl rfl rfl ?_
        | refine LOps.val (LVal.buildSlice1 hD rfl rfl rfl rfl rfl rfl rfl rfl rfl rfl) rfl rfl rfl ?_
        | refine LOps.val (LVal.build hD rfl rfl rfl rfl rfl rfl rfl) rfl rfl rfl ?_
        | refine LOps.val (LVal.buildSlice hD rfl rfl rfl rfl rfl rfl rfl rfl rfl rfl) rfl rfl rfl ?_
        | refine LOps.val (LVal.takeMap hD rfl rfl rfl rfl rfl rfl (by first | assumption | omega) rfl (fun _ _ => rfl)) rfl rfl rfl ?_
        | refine LOps.val (LVal.dropMap hD rfl rfl rfl rfl rfl rfl (by first | assumption | omega) rfl (fun _ _ => rfl)) rfl rfl rfl ?_
        | refine LOps.val (LVal.cutMap hD rfl rfl rfl rfl rfl rfl rfl (by first | assumption | omega) (by first | assumption | omega) rfl (fun _ _ => rfl)) rfl rfl rfl ?_
        | refine LOps.val (LVal.move2 rfl rfl) rfl rfl rfl ?_
        | refine LOps.val (LVal.assign2 rfl rfl) rfl rfl rfl ?_
        | refine LOps.val (LVal.move (.inl rfl)) rfl rfl rfl ?_
        | refine LOps.val (LVal.move (.inr rfl)) rfl rfl rfl ?_
        | refine LOps.out rfl rfl rfl ?_
        | refine LOps.valG (LVal.move1 rfl rfl) rfl rfl rfl ?_
        | refine LOps.valG (LVal.assign1 rfl rfl) rfl rfl rfl ?_
        | refine LOps.valG (LVal.len hD rfl rfl rfl rfl) rfl rfl rfl ?_
        | refine LOps.valG (LVal.lenStr hD rfl rfl rfl rfl) rfl rfl rfl ?_
        | refine LOps.valG (LVal.add64 rfl rfl rfl (by omega)) rfl rfl rfl ?_
        | refine LOps.valG (LVal.sub64 rfl rfl rfl (by omega)) rfl rfl rfl ?_
        | refine LOps.valG (LVal.addU64 rfl rfl rfl (by omega)) rfl rfl rfl ?_
        | refine LOps.valG (LVal.subU64 rfl rfl rfl (by omega)) rfl rfl rfl ?_
        | refine LOps.valG (LVal.mulU64 rfl rfl rfl (by omega)) rfl rfl rfl ?_
        | refine LOps.valG (LVal.remI rfl rfl rfl (by omega)) rfl rfl rfl ?_
        | refine LOps.valG (LVal.quoU64 rfl rfl rfl (by omega)) rfl rfl rfl ?_
        | refine LOps.valG (LVal.quo64 rfl rfl rfl (by omega)) rfl rfl rfl ?_
        | refine LOps.valG (LVal.mul64 rfl rfl rfl (by omega)) rfl rfl rfl ?_
        | refine LOps.valG (LVal.conv64 hD rfl rfl rfl rfl rfl (by omega)) rfl rfl rfl ?_
        | refine LOps.valG (LVal.convU64 hD rfl rfl rfl rfl rfl (by omega)) rfl rfl rfl ?_
        | refine LOps.valG (LVal.neqSame hD rfl rfl rfl) rfl rfl rfl ?_
        | refine LOps.valG (LVal.neqSameB hD rfl rfl rfl rfl rfl) rfl rfl rfl ?_
        | refine LOps.valG (LVal.binOp hD rfl rfl rfl rfl) rfl rfl rfl ?_
        | refine LOps.valG (LVal.unOp rfl rfl rfl) rfl rfl rfl ?_
        | refine LOps.valG (LVal.pick rfl rfl) rfl rfl rfl ?_
        | refine LOps.valG (LVal.extract rfl rfl rfl) rfl rfl rfl ?_
        | refine LOps.valG (LVal.convInt hD rfl rfl rfl rfl rfl) rfl rfl rfl ?_
        | refine LOps.valG (LVal.fieldAddr hD rfl rfl rfl rfl rfl rfl (by decide)) rfl rfl rfl ?_
        | refine LOps.valG (LVal.load hD rfl rfl (by first | assumption | exact box_new _ _ _ | exact box_set _ _ _ | (simp only [box_new, box_set, box_row, box_new_ne, box_set_ne, ne_eq, not_false_eq_true, *]; done) | (simp only [box_new, box_set, box_row, box_new_ne, box_set_ne, ne_eq, not_false_eq_true, *]; rfl)) rfl rfl) rfl rfl rfl ?_
        | refine LOps.valG (LVal.indexMap hD rfl rfl rfl rfl rfl rfl (by first | assumption | omega) rfl) rfl rfl rfl ?_
        | refine LOps.valG (LVal.loadRo hD rfl rfl rfl rfl) rfl rfl rfl ?_
        | refine LOps.valG (LVal.fieldAddrRo hD rfl rfl rfl rfl rfl rfl (by decide)) rfl rfl rfl ?_
        | refine LOps.valG (LVal.field hD rfl rfl rfl rfl rfl rfl rfl) rfl rfl rfl ?_
        | refine LOps.valG (LVal.buildSlice1 hD rfl rfl rfl rfl rfl rfl rfl rfl rfl rfl) rfl rfl rfl ?_
        | refine LOps.valG (LVal.build hD rfl rfl rfl rfl rfl rfl rfl) rfl rfl rfl ?_
        | refine LOps.valG (LVal.buildSlice hD rfl rfl rfl rfl rfl rfl rfl rfl rfl rfl) rfl rfl rfl ?_
        | refine LOps.valG (LVal.takeMap hD rfl rfl rfl rfl rfl rfl (by first | assumption | omega) rfl (fun _ _ => rfl)) rfl rfl rfl ?_
        | refine LOps.valG (LVal.dropMap hD rfl rfl rfl rfl rfl rfl (by first | assumption | omega) rfl (fun _ _ => rfl)) rfl rfl rfl ?_
        | refine LOps.valG (LVal.cutMap hD rfl rfl rfl rfl rfl rfl rfl (by first | assumption | omega) (by first | assumption | omega) rfl (fun _ _ => rfl)) rfl rfl rfl ?_
        | refine LOps.valG (LVal.move2 rfl rfl) rfl rfl rfl ?_
        | refine LOps.valG (LVal.assign2 rfl rfl) rfl rfl rfl ?_
        | refine LOps.valG (LVal.move (.inl rfl)) rfl rfl rfl ?_
        | refine LOps.valG (LVal.move (.inr rfl)) rfl rfl rfl ?_
        | (refine LOps.do0 (LDo.store hD rfl rfl (by first | assumption | exact box_new _ _ _ | exact box_set _ _ _ | (simp only [box_new, box_set, box_row, box_new_ne, box_set_ne, ne_eq, not_false_eq_true, *]; done) | (simp only [box_new, box_set, box_row, box_new_ne, box_set_ne, ne_eq, not_false_eq_true, *]; rfl)) rfl rfl rfl rfl) rfl rfl ?_; rintro _ _ ⟨rfl, rfl⟩))
      refine LWp.condT rfl ?_
      repeat (first
        | refine LOps.nil ?_
        | refine andThen_normal ?_
        | refine andThen_exit ?_
        | refine andThen_ret ?_
        | refine inBlock_normal ?_
        | refine inBlock_ret ?_
        | refine inBlock_here ?_
        | refine inBlock_out rfl ?_
        | refine LWp.seq ?_
        | refine LWp.region ?_
        | refine LWp.block ?_
        | refine LWp.exit ?_
        | refine LWp.ret ?_
        | refine LWp.skip ?_
        | refine LOps.val (LVal.move1 rfl rfl) rfl rfl rfl ?_
        | refine LOps.val (LVal.assign1 rfl rfl) rfl rfl rfl ?_
        | refine LOps.val (LVal.len hD rfl rfl rfl rfl) rfl rfl rfl ?_
        | refine LOps.val (LVal.lenStr hD rfl rfl rfl rfl) rfl rfl rfl ?_
        | refine LOps.val (LVal.add64 rfl rfl rfl (by omega)) rfl rfl rfl ?_
        | refine LOps.val (LVal.sub64 rfl rfl rfl (by omega)) rfl rfl rfl ?_
        | refine LOps.val (LVal.addU64 rfl rfl rfl (by omega)) rfl rfl rfl ?_
        | refine LOps.val (LVal.subU64 rfl rfl rfl (by omega)) rfl rfl rfl ?_
        | refine LOps.val (LVal.mulU64 rfl rfl rfl (by omega)) rfl rfl rfl ?_
        | refine LOps.val (LVal.remI rfl rfl rfl (by omega)) rfl rfl rfl ?_
        | refine LOps.val (LVal.quoU64 rfl rfl rfl (by omega)) rfl rfl rfl ?_
        | refine LOps.val (LVal.quo64 rfl rfl rfl (by omega)) rfl rfl rfl ?_
        | refine LOps.val (LVal.mul64 rfl rfl rfl (by omega)) rfl rfl rfl ?_
        | refine LOps.val (LVal.conv64 hD rfl rfl rfl rfl rfl (by omega)) rfl rfl rfl ?_
        | refine LOps.val (LVal.convU64 hD rfl rfl rfl rfl rfl (by omega)) rfl rfl rfl ?_
        | refine LOps.val (LVal.neqSame hD rfl rfl rfl) rfl rfl rfl ?_
        | refine LOps.val (LVal.neqSameB hD rfl rfl rfl rfl rfl) rfl rfl rfl ?_
        | refine LOps.val (LVal.binOp hD rfl rfl rfl rfl) rfl rfl rfl ?_
        | refine LOps.val (LVal.unOp rfl rfl rfl) rfl rfl rfl ?_
        | refine LOps.val (LVal.pick rfl rfl) rfl rfl rfl ?_
        | refine LOps.val (LVal.extract rfl rfl rfl) rfl rfl rfl ?_
        | refine LOps.val (LVal.convInt hD rfl rfl rfl rfl rfl) rfl rfl rfl ?_
        | refine LOps.val (LVal.fieldAddr hD rfl rfl rfl rfl rfl rfl (by decide)) rfl rfl rfl ?_
        | refine LOps.val (LVal.load hD rfl rfl (by first | assumption | exact box_new _ _ _ | exact box_set _ _ _ | (simp only [box_new, box_set, box_row, box_new_ne, box_set_ne, ne_eq, not_false_eq_true, *]; done) | (simp only [box_new, box_set, box_row, box_new_ne, box_set_ne, ne_eq, not_false_eq_true, *]; rfl)) rfl rfl) rfl rfl rfl ?_
        | refine LOps.val (LVal.indexMap hD rfl rfl rfl rfl rfl rfl (by first | assumption | omega) rfl) rfl rfl rfl ?_
        | refine LOps.val (LVal.loadRo hD rfl rfl rfl rfl) rfl rfl rfl ?_
        | refine LOps.val (LVal.fieldAddrRo hD rfl rfl rfl rfl rfl rfl (by decide)) rfl rfl rfl ?_
        | refine LOps.val (LVal.field hD rfl rfl rfl rfl rfl rfl rfl) rfl rfl rfl ?_
        | refine LOps.val (LVal.buildSlice1 hD rfl rfl rfl rfl rfl rfl rfl rfl rfl rfl) rfl rfl rfl ?_
        | refine LOps.val (LVal.build hD rfl rfl rfl rfl rfl rfl rfl) rfl rfl rfl ?_
        | refine LOps.val (LVal.buildSlice hD rfl rfl rfl rfl rfl rfl rfl rfl rfl rfl) rfl rfl rfl ?_
        | refine LOps.val (LVal.takeMap hD rfl rfl rfl rfl rfl rfl (by first | assumption | omega) rfl (fun _ _ => rfl)) rfl rfl rfl ?_
        | refine LOps.val (LVal.dropMap hD rfl rfl rfl rfl rfl rfl (by first | assumption | omega) rfl (fun _ _ => rfl)) rfl rfl rfl ?_
        | refine LOps.val (LVal.cutMap hD rfl rfl rfl rfl rfl rfl rfl (by first | assumption | omega) (by first | assumption | omega) rfl (fun _ _ => rfl)) rfl rfl rfl ?_
        | refine LOps.val (LVal.move2 rfl rfl) rfl rfl rfl ?_
        | refine LOps.val (LVal.assign2 rfl rfl) rfl rfl rfl ?_
        | refine LOps.val (LVal.move (.inl rfl)) rfl rfl rfl ?_
        | refine LOps.val (LVal.move (.inr rfl)) rfl rfl rfl ?_
        | refine LOps.out rfl rfl rfl ?_
        | refine LOps.valG (LVal.move1 rfl rfl) rfl rfl rfl ?_
        | refine LOps.valG (LVal.assign1 rfl rfl) rfl rfl rfl ?_
        | refine LOps.valG (LVal.len hD rfl rfl rfl rfl) rfl rfl rfl ?_
        | refine LOps.valG (LVal.lenStr hD rfl rfl rfl rfl) rfl rfl rfl ?_
        | refine LOps.valG (LVal.add64 rfl rfl rfl (by omega)) rfl rfl rfl ?_
        | refine LOps.valG (LVal.sub64 rfl rfl rfl (by omega)) rfl rfl rfl ?_
        | refine LOps.valG (LVal.addU64 rfl rfl rfl (by omega)) rfl rfl rfl ?_
        | refine LOps.valG (LVal.subU64 rfl rfl rfl (by omega)) rfl rfl rfl ?_
        | refine LOps.valG (LVal.mulU64 rfl rfl rfl (by omega)) rfl rfl rfl ?_
        | refine LOps.valG (LVal.remI rfl rfl rfl (by omega)) rfl rfl rfl ?_
        | refine LOps.valG (LVal.quoU64 rfl rfl rfl (by omega)) rfl rfl rfl ?_
        | refine LOps.valG (LVal.quo64 rfl rfl rfl (by omega)) rfl rfl rfl ?_
        | refine LOps.valG (LVal.mul64 rfl rfl rfl (by omega)) rfl rfl rfl ?_
        | refine LOps.valG (LVal.conv64 hD rfl rfl rfl rfl rfl (by omega)) rfl rfl rfl ?_
        | refine LOps.valG (LVal.convU64 hD rfl rfl rfl rfl rfl (by omega)) rfl rfl rfl ?_
        | refine LOps.valG (LVal.neqSame hD rfl rfl rfl) rfl rfl rfl ?_
        | refine LOps.valG (LVal.neqSameB hD rfl rfl rfl rfl rfl) rfl rfl rfl ?_
        | refine LOps.valG (LVal.binOp hD rfl rfl rfl rfl) rfl rfl rfl ?_
        | refine LOps.valG (LVal.unOp rfl rfl rfl) rfl rfl rfl ?_
        | refine LOps.valG (LVal.pick rfl rfl) rfl rfl rfl ?_
        | refine LOps.valG (LVal.extract rfl rfl rfl) rfl rfl rfl ?_
        | refine LOps.valG (LVal.convInt hD rfl rfl rfl rfl rfl) rfl rfl rfl ?_
        | refine LOps.valG (LVal.fieldAddr hD rfl rfl rfl rfl rfl rfl (by decide)) rfl rfl rfl ?_
        | refine LOps.valG (LVal.load hD rfl rfl (by first | assumption | exact box_new _ _ _ | exact box_set _ _ _ | (simp only [box_new, box_set, box_row, box_new_ne, box_set_ne, ne_eq, not_false_eq_true, *]; done) | (simp only [box_new, box_set, box_row, box_new_ne, box_set_ne, ne_eq, not_false_eq_true, *]; rfl)) rfl rfl) rfl rfl rfl ?_
        | refine LOps.valG (LVal.indexMap hD rfl rfl rfl rfl rfl rfl (by first | assumption | omega) rfl) rfl rfl rfl ?_
        | refine LOps.valG (LVal.loadRo hD rfl rfl rfl rfl) rfl rfl rfl ?_
        | refine LOps.valG (LVal.fieldAddrRo hD rfl rfl rfl rfl rfl rfl (by decide)) rfl rfl rfl ?_
        | refine LOps.valG (LVal.field hD rfl rfl rfl rfl rfl rfl rfl) rfl rfl rfl ?_
        | refine LOps.valG (LVal.buildSlice1 hD rfl rfl rfl rfl rfl rfl rfl rfl rfl rfl) rfl rfl rfl ?_
        | refine LOps.valG (LVal.build hD rfl rfl rfl rfl rfl rfl rfl) rfl rfl rfl ?_
        | refine LOps.valG (LVal.buildSlice hD rfl rfl rfl rfl rfl rfl rfl rfl rfl rfl) rfl rfl rfl ?_
        | refine LOps.valG (LVal.takeMap hD rfl rfl rfl rfl rfl rfl (by first | assumption | omega) rfl (fun _ _ => rfl)) rfl rfl rfl ?_
        | refine LOps.valG (LVal.dropMap hD rfl rfl rfl rfl rfl rfl (by first | assumption | omega) rfl (fun _ _ => rfl)) rfl rfl rfl ?_
        | refine LOps.valG (LVal.cutMap hD rfl rfl rfl rfl rfl rfl rfl (by first | assumption | omega) (by first | assumption | omega) rfl (fun _ _ => rfl)) rfl rfl rfl ?_
        | refine LOps.valG (LVal.move2 rfl rfl) rfl rfl rfl ?_
        | refine LOps.valG (LVal.assign2 rfl rfl) rfl rfl rfl ?_
        | refine LOps.valG (LVal.move (.inl rfl)) rfl rfl rfl ?_
        | refine LOps.valG (LVal.move (.inr rfl)) rfl rfl rfl ?_
        | (refine LOps.do0 (LDo.store hD rfl rfl (by first | assumption | exact box_new _ _ _ | exact box_set _ _ _ | (simp only [box_new, box_set, box_row, box_new_ne, box_set_ne, ne_eq, not_false_eq_true, *]; done) | (simp only [box_new, box_set, box_row, box_new_ne, box_set_ne, ne_eq, not_false_eq_true, *]; rfl)) rfl rfl rfl rfl) rfl rfl ?_; rintro _ _ ⟨rfl, rfl⟩))
      refine hbad _ (box_set _ _ _) (hle.setBox (by have := hbr.box; exact this) _) (fun h => ?_) _ rfl rfl
      have := (hrp.1 h).2 _ (List.mem_of_getElem? hx)
      have := of_decide_eq_true hg
      omega
    · have hxl : q / 16 % 16 < 15 := by have := of_decide_eq_false hg; omega
      repeat (first
        | refine LOps.valG (LVal.call rfl rfl (by rw [hP]; exact Try.func24) rfl (by decide) (has_F hP _ (q / 16 % 16) (by simp; omega))) rfl rfl rfl ?_
        | refine LOps.nil ?_
        | refine andThen_normal ?_
        | refine andThen_exit ?_
        | refine andThen_ret ?_
        | refine inBlock_normal ?_
        | refine inBlock_ret ?_
        | refine inBlock_here ?_
        | refine inBlock_out rfl ?_
        | refine LWp.seq ?_
        | refine LWp.region ?_
        | refine LWp.block ?_
        | refine LWp.exit ?_
        | refine LWp.ret ?_
        | refine LWp.skip ?_
        | refine LOps.val (LVal.move1 rfl rfl) rfl rfl rfl ?_
        | refine LOps.val (LVal.assign1 rfl rfl) rfl rfl rfl ?_
        | refine LOps.val (LVal.len hD rfl rfl rfl rfl) rfl rfl rfl ?_
        | refine LOps.val (LVal.lenStr hD rfl rfl rfl rfl) rfl rfl rfl ?_
        | refine LOps.val (LVal.add64 rfl rfl rfl (by omega)) rfl rfl rfl ?_
        | refine LOps.val (LVal.sub64 rfl rfl rfl (by omega)) rfl rfl rfl ?_
        | refine LOps.val (LVal.addU64 rfl rfl rfl (by omega)) rfl rfl rfl ?_
        | refine LOps.val (LVal.subU64 rfl rfl rfl (by omega)) rfl rfl rfl ?_
        | refine LOps.val (LVal.mulU64 rfl rfl rfl (by omega)) rfl rfl rfl ?_
        | refine LOps.val (LVal.remI rfl rfl rfl (by omega)) rfl rfl rfl ?_
        | refine LOps.val (LVal.quoU64 rfl rfl rfl (by omega)) rfl rfl rfl ?_
        | refine LOps.val (LVal.quo64 rfl rfl rfl (by omega)) rfl rfl rfl ?_
        | refine LOps.val (LVal.mul64 rfl rfl rfl (by omega)) rfl rfl rfl ?_
        | refine LOps.val (LVal.conv64 hD rfl rfl rfl rfl rfl (by omega)) rfl rfl rfl ?_
        | refine LOps.val (LVal.convU64 hD rfl rfl rfl rfl rfl (by omega)) rfl rfl rfl ?_
        | refine LOps.val (LVal.neqSame hD rfl rfl rfl) rfl rfl rfl ?_
        | refine LOps.val (LVal.neqSameB hD rfl rfl rfl rfl rfl) rfl rfl rfl ?_
        | refine LOps.val (LVal.binOp hD rfl rfl rfl rfl) rfl rfl rfl ?_
        | refine LOps.val (LVal.unOp rfl rfl rfl) rfl rfl rfl ?_
        | refine LOps.val (LVal.pick rfl rfl) rfl rfl rfl ?_
        | refine LOps.val (LVal.extract rfl rfl rfl) rfl rfl rfl ?_
        | refine LOps.val (LVal.convInt hD rfl rfl rfl rfl rfl) rfl rfl rfl ?_
        | refine LOps.val (LVal.fieldAddr hD rfl rfl rfl rfl rfl rfl (by decide)) rfl rfl rfl ?_
        | refine LOps.val (LVal.load hD rfl rfl (by first | assumption | exact box_new _ _ _ | exact box_set _ _ _ | (simp only [box_new, box_set, box_row, box_new_ne, box_set_ne, ne_eq, not_false_eq_true, *]; done) | (simp only [box_new, box_set, box_row, box_new_ne, box_set_ne, ne_eq, not_false_eq_true, *]; rfl)) rfl rfl) rfl rfl rfl ?_
        | refine LOps.val (LVal.indexMap hD rfl rfl rfl rfl rfl rfl (by first | assumption | omega) rfl) rfl rfl rfl ?_
        | refine LOps.val (LVal.loadRo hD rfl rfl rfl rfl) rfl rfl rfl ?_
        | refine LOps.val (LVal.fieldAddrRo hD rfl rfl rfl rfl rfl rfl (by decide)) rfl rfl rfl ?_
        | refine LOps.val (LVal.field hD rfl rfl rfl rfl rfl rfl rfl) rfl rfl rfl ?_
        | refine LOps.val (LVal.buildSlice1 hD rfl rfl rfl rfl rfl rfl rfl rfl rfl rfl) rfl rfl rfl ?_
        | refine LOps.val (LVal.build hD rfl rfl rfl rfl rfl rfl rfl) rfl rfl rfl ?_
        | refine LOps.val (LVal.buildSlice hD rfl rfl rfl rfl rfl rfl rfl rfl rfl rfl) rfl rfl rfl ?_
        | refine LOps.val (LVal.takeMap hD rfl rfl rfl rfl rfl rfl (by first | assumption | omega) rfl (fun _ _ => rfl)) rfl rfl rfl ?_
        | refine LOps.val (LVal.dropMap hD rfl rfl rfl rfl rfl rfl (by first | assumption | omega) rfl (fun _ _ => rfl)) rfl rfl rfl ?_
        | refine LOps.val (LVal.cutMap hD rfl rfl rfl rfl rfl rfl rfl (by first | assumption | omega) (by first | assumption | omega) rfl (fun _ _ => rfl)) rfl rfl rfl ?_
        | refine LOps.val (LVal.move2 rfl rfl) rfl rfl rfl ?_
        | refine LOps.val (LVal.assign2 rfl rfl) rfl rfl rfl ?_
        | refine LOps.val (LVal.move (.inl rfl)) rfl rfl rfl ?_
        | refine LOps.val (LVal.move (.inr rfl)) rfl rfl rfl ?_
        | refine LOps.out rfl rfl rfl ?_
        | refine LOps.valG (LVal.move1 rfl rfl) rfl rfl rfl ?_
        | refine LOps.valG (LVal.assign1 rfl rfl) rfl rfl rfl ?_
        | refine LOps.valG (LVal.len hD rfl rfl rfl rfl) rfl rfl rfl ?_
        | refine LOps.valG (LVal.lenStr hD rfl rfl rfl rfl) rfl rfl rfl ?_
        | refine LOps.valG (LVal.add64 rfl rfl rfl (by omega)) rfl rfl rfl ?_
        | refine LOps.valG (LVal.sub64 rfl rfl rfl (by omega)) rfl rfl rfl ?_
        | refine LOps.valG (LVal.addU64 rfl rfl rfl (by omega)) rfl rfl rfl ?_
        | refine LOps.valG (LVal.subU64 rfl rfl rfl (by omega)) rfl rfl rfl ?_
        | refine LOps.valG (LVal.mulU64 rfl rfl rfl (by omega)) rfl rfl rfl ?_
        | refine LOps.valG (LVal.remI rfl rfl rfl (by omega)) rfl rfl rfl ?_
        | refine LOps.valG (LVal.quoU64 rfl rfl rfl (by omega)) rfl rfl rfl ?_
        | refine LOps.valG (LVal.quo64 rfl rfl rfl (by omega)) rfl rfl rfl ?_
        | refine LOps.valG (LVal.mul64 rfl rfl rfl (by omega)) rfl rfl rfl ?_
        | refine LOps.valG (LVal.conv64 hD rfl rfl rfl rfl rfl (by omega)) rfl rfl rfl ?_
        | refine LOps.valG (LVal.convU64 hD rfl rfl rfl rfl rfl (by omega)) rfl rfl rfl ?_
        | refine LOps.valG (LVal.neqSame hD rfl rfl rfl) rfl rfl rfl ?_
        | refine LOps.valG (LVal.neqSameB hD rfl rfl rfl rfl rfl) rfl rfl rfl ?_
        | refine LOps.valG (LVal.binOp hD rfl rfl rfl rfl) rfl rfl rfl ?_
        | refine LOps.valG (LVal.unOp rfl rfl rfl) rfl rfl rfl ?_
        | refine LOps.valG (LVal.pick rfl rfl) rfl rfl rfl ?_
        | refine LOps.valG (LVal.extract rfl rfl rfl) rfl rfl rfl ?_
        | refine LOps.valG (LVal.convInt hD rfl rfl rfl rfl rfl) rfl rfl rfl ?_
        | refine LOps.valG (LVal.fieldAddr hD rfl rfl rfl rfl rfl rfl (by decide)) rfl rfl rfl ?_
        | refine LOps.valG (LVal.load hD rfl rfl (by first | assumption | exact box_new _ _ _ | exact box_set _ _ _ | (simp only [box_new, box_set, box_row, box_new_ne, box_set_ne, ne_eq, not_false_eq_true, *]; done) | (simp only [box_new, box_set, box_row, box_new_ne, box_set_ne, ne_eq, not_false_eq_true, *]; rfl)) rfl rfl) rfl rfl rfl ?_
        | refine LOps.valG (LVal.indexMap hD rfl rfl rfl rfl rfl rfl (by first | assumption | omega) rfl) rfl rfl rfl ?_
        | refine LOps.valG (LVal.loadRo hD rfl rfl rfl rfl) rfl rfl rfl ?_
        | refine LOps.valG (LVal.fieldAddrRo hD rfl rfl rfl rfl rfl rfl (by decide)) rfl rfl rfl ?_
        | refine LOps.valG (LVal.field hD rfl rfl rfl rfl rfl rfl rfl) rfl rfl rfl ?_
        | refine LOps.valG (LVal.buildSlice1 hD rfl rfl rfl rfl rfl rfl rfl rfl rfl rfl) rfl rfl rfl ?_
        | refine LOps.valG (LVal.build hD rfl rfl rfl rfl rfl rfl rfl) rfl rfl rfl ?_
        | refine LOps.valG (LVal.buildSlice hD rfl rfl rfl rfl rfl rfl rfl rfl rfl rfl) rfl rfl rfl ?_
        | refine LOps.valG (LVal.takeMap hD rfl rfl rfl rfl rfl rfl (by first | assumption | omega) rfl (fun _ _ => rfl)) rfl rfl rfl ?_
        | refine LOps.valG (LVal.dropMap hD rfl rfl rfl rfl rfl rfl (by first | assumption | omega) rfl (fun _ _ => rfl)) rfl rfl rfl ?_
        | refine LOps.valG (LVal.cutMap hD rfl rfl rfl rfl rfl rfl rfl (by first | assumption | omega) (by first | assumption | omega) rfl (fun _ _ => rfl)) rfl rfl rfl ?_
        | refine LOps.valG (LVal.move2 rfl rfl) rfl rfl rfl ?_
        | refine LOps.valG (LVal.assign2 rfl rfl) rfl rfl rfl ?_
        | refine LOps.valG (LVal.move (.inl rfl)) rfl rfl rfl ?_
        | refine LOps.valG (LVal.move (.inr rfl)) rfl rfl rfl ?_
        | (refine LOps.do0 (LDo.store hD rfl rfl (by first | assumption | exact box_new _ _ _ | exact box_set _ _ _ | (simp only [box_new, box_set, box_row, box_new_ne, box_set_ne, ne_eq, not_false_eq_true, *]; done) | (simp only [box_new, box_set, box_row, box_new_ne, box_set_ne, ne_eq, not_false_eq_true, *]; rfl)) rfl rfl rfl rfl) rfl rfl ?_; rintro _ _ ⟨rfl, rfl⟩))
      have htk : L.take (k + 1) = L.take k ++ [q / 16 % 16] := by rw [List.take_add_one, hx]; rfl
      have hnot : q / 16 % 16 ∈ L.take k → ¬ Rt L := fun hm h => by
        have h2 : (L.take (k + 1)).Nodup := List.Nodup.sublist (List.take_sublist _ _) (hrp.1 h).1
        rw [htk, List.nodup_append] at h2
        exact h2.2.2 _ hm _ (by simp) rfl
      refine LOps.guard rfl rfl rfl (fun hg2 => ?_) (fun hg2 => ?_)
      · repeat (first
          | refine LOps.nil ?_
          | refine andThen_normal ?_
          | refine andThen_exit ?_
          | refine andThen_ret ?_
          | refine inBlock_normal ?_
          | refine inBlock_ret ?_
          | refine inBlock_here ?_
          | refine inBlock_out rfl ?_
          | refine LWp.seq ?_
          | refine LWp.region ?_
          | refine LWp.block ?_
          | refine LWp.exit ?_
          | refine LWp.ret ?_
          | refine LWp.skip ?_
          | refine LOps.val (LVal.move1 rfl rfl) rfl rfl rfl ?_
          | refine LOps.val (LVal.assign1 rfl rfl) rfl rfl rfl ?_
          | refine LOps.val (LVal.len hD rfl rfl rfl rfl) rfl rfl rfl ?_
          | refine LOps.val (LVal.lenStr hD rfl rfl rfl rfl) rfl rfl rfl ?_
          | refine LOps.val (LVal.add64 rfl rfl rfl (by omega)) rfl rfl rfl ?_
          | refine LOps.val (LVal.sub64 rfl rfl rfl (by omega)) rfl rfl rfl ?_
          | refine LOps.val (LVal.addU64 rfl rfl rfl (by omega)) rfl rfl rfl ?_
          | refine LOps.val (LVal.subU64 rfl rfl rfl (by omega)) rfl rfl rfl ?_
          | refine LOps.val (LVal.mulU64 rfl rfl rfl (by omega)) rfl rfl rfl ?_
          | refine LOps.val (LVal.remI rfl rfl rfl (by omega)) rfl rfl rfl ?_
          | refine LOps.val (LVal.quoU64 rfl rfl rfl (by omega)) rfl rfl rfl ?_
          | refine LOps.val (LVal.quo64 rfl rfl rfl (by omega)) rfl rfl rfl ?_
          | refine LOps.val (LVal.mul64 rfl rfl rfl (by omega)) rfl rfl rfl ?_
          | refine LOps.val (LVal.conv64 hD rfl rfl rfl rfl rfl (by omega)) rfl rfl rfl ?_
          | refine LOps.val (LVal.convU64 hD rfl rfl rfl rfl rfl (by omega)) rfl rfl rfl ?_
          | refine LOps.val (LVal.neqSame hD rfl rfl rfl) rfl rfl rfl ?_
          | refine LOps.val (LVal.neqSameB hD rfl rfl rfl rfl rfl) rfl rfl rfl ?_
          | refine LOps.val (LVal.binOp hD rfl rfl rfl rfl) rfl rfl rfl ?_
          | refine LOps.val (LVal.unOp rfl rfl rfl) rfl rfl rfl ?_
          | refine LOps.val (LVal.pick rfl rfl) rfl rfl rfl ?_
          | refine LOps.val (LVal.extract rfl rfl rfl) rfl rfl rfl ?_
          | refine LOps.val (LVal.convInt hD rfl rfl rfl rfl rfl) rfl rfl rfl ?_
          | refine LOps.val (LVal.fieldAddr hD rfl rfl rfl rfl rfl rfl (by decide)) rfl rfl rfl ?_
          | refine LOps.val (LVal.load hD rfl rfl (by first | assumption | exact box_new _ _ _ | exact box_set _ _ _ | (simp only [box_new, box_set, box_row, box_new_ne, box_set_ne, ne_eq, not_false_eq_true, *]; done) | (simp only [box_new, box_set, box_row, box_new_ne, box_set_ne, ne_eq, not_false_eq_true, *]; rfl)) rfl rfl) rfl rfl rfl ?_
          | refine LOps.val (LVal.indexMap hD rfl rfl rfl rfl rfl rfl (by first | assumption | omega) rfl) rfl rfl rfl ?_
          | refine LOps.val (LVal.loadRo hD rfl rfl rfl rfl) rfl rfl rfl ?_
          | refine LOps.val (LVal.fieldAddrRo hD rfl rfl rfl rfl rfl rfl (by decide)) rfl rfl rfl ?_
          | refine LOps.val (LVal.field hD rfl rfl rfl rfl rfl rfl rfl) rfl rfl rfl ?_
          | refine LOps.val (LVal.buildSlice1 hD rfl rfl rfl rfl rfl rfl rfl rfl rfl rfl) rfl rfl rfl ?_
          | refine LOps.val (LVal.build hD rfl rfl rfl rfl rfl rfl rfl) rfl rfl rfl ?_
          | refine LOps.val (LVal.buildSlice hD rfl rfl rfl rfl rfl rfl rfl rfl rfl rfl) rfl rfl rfl ?_
          | refine LOps.val (LVal.takeMap hD rfl rfl rfl rfl rfl rfl (by first | assumption | omega) rfl (fun _ _ => rfl)) rfl rfl rfl ?_
          | refine LOps.val (LVal.dropMap hD rfl rfl rfl rfl rfl rfl (by first | assumption | omega) rfl (fun _ _ => rfl)) rfl rfl rfl ?_
          | refine LOps.val (LVal.cutMap hD rfl rfl rfl rfl rfl rfl rfl (by first | assumption | omega) (by first | assumption | omega) rfl (fun _ _ => rfl)) rfl rfl rfl ?_
          | refine LOps.val (LVal.move2 rfl rfl) rfl rfl rfl ?_
          | refine LOps.val (LVal.assign2 rfl rfl) rfl rfl rfl ?_
          | refine LOps.val (LVal.move (.inl rfl)) rfl rfl rfl ?_
          | refine LOps.val (LVal.move (.inr rfl)) rfl rfl rfl ?_
          | refine LOps.out rfl rfl rfl ?_
          | refine LOps.valG (LVal.move1 rfl rfl) rfl rfl rfl ?_
          | refine LOps.valG (LVal.assign1 rfl rfl) rfl rfl rfl ?_
          | refine LOps.valG (LVal.len hD rfl rfl rfl rfl) rfl rfl rfl ?_
          | refine LOps.valG (LVal.lenStr hD rfl rfl rfl rfl) rfl rfl rfl ?_
          | refine LOps.valG (LVal.add64 rfl rfl rfl (by omega)) rfl rfl rfl ?_
          | refine LOps.valG (LVal.sub64 rfl rfl rfl (by omega)) rfl rfl rfl ?_
          | refine LOps.valG (LVal.addU64 rfl rfl rfl (by omega)) rfl rfl rfl ?_
          | refine LOps.valG (LVal.subU64 rfl rfl rfl (by omega)) rfl rfl rfl ?_
          | refine LOps.valG (LVal.mulU64 rfl rfl rfl (by omega)) rfl rfl rfl ?_
          | refine LOps.valG (LVal.remI rfl rfl rfl (by omega)) rfl rfl rfl ?_
          | refine LOps.valG (LVal.quoU64 rfl rfl rfl (by omega)) rfl rfl rfl ?_
          | refine LOps.valG (LVal.quo64 rfl rfl rfl (by omega)) rfl rfl rfl ?_
          | refine LOps.valG (LVal.mul64 rfl rfl rfl (by omega)) rfl rfl rfl ?_
          | refine LOps.valG (LVal.conv64 hD rfl rfl rfl rfl rfl (by omega)) rfl rfl rfl ?_
          | refine LOps.valG (LVal.convU64 hD rfl rfl rfl rfl rfl (by omega)) rfl rfl rfl ?_
          | refine LOps.valG (LVal.neqSame hD rfl rfl rfl) rfl rfl rfl ?_
          | refine LOps.valG (LVal.neqSameB hD rfl rfl rfl rfl rfl) rfl rfl rfl ?_
          | refine LOps.valG (LVal.binOp hD rfl rfl rfl rfl) rfl rfl rfl ?_
          | refine LOps.valG (LVal.unOp rfl rfl rfl) rfl rfl rfl ?_
          | refine LOps.valG (LVal.pick rfl rfl) rfl rfl rfl ?_
          | refine LOps.valG (LVal.extract rfl rfl rfl) rfl rfl rfl ?_
          | refine LOps.valG (LVal.convInt hD rfl rfl rfl rfl rfl) rfl rfl rfl ?_
          | refine LOps.valG (LVal.fieldAddr hD rfl rfl rfl rfl rfl rfl (by decide)) rfl rfl rfl ?_
          | refine LOps.valG (LVal.load hD rfl rfl (by first | assumption | exact box_new _ _ _ | exact box_set _ _ _ | (simp only [box_new, box_set, box_row, box_new_ne, box_set_ne, ne_eq, not_false_eq_true, *]; done) | (simp only [box_new, box_set, box_row, box_new_ne, box_set_ne, ne_eq, not_false_eq_true, *]; rfl)) rfl rfl) rfl rfl rfl ?_
          | refine LOps.valG (LVal.indexMap hD rfl rfl rfl rfl rfl rfl (by first | assumption | omega) rfl) rfl rfl rfl ?_
          | refine LOps.valG (LVal.loadRo hD rfl rfl rfl rfl) rfl rfl rfl ?_
          | refine LOps.valG (LVal.fieldAddrRo hD rfl rfl rfl rfl rfl rfl (by decide)) rfl rfl rfl ?_
          | refine LOps.valG (LVal.field hD rfl rfl rfl rfl rfl rfl rfl) rfl rfl rfl ?_
          | refine LOps.valG (LVal.buildSlice1 hD rfl rfl rfl rfl rfl rfl rfl rfl rfl rfl) rfl rfl rfl ?_
          | refine LOps.valG (LVal.build hD rfl rfl rfl rfl rfl rfl rfl) rfl rfl rfl ?_
          | refine LOps.valG (LVal.buildSlice hD rfl rfl rfl rfl rfl rfl rfl rfl rfl rfl) rfl rfl rfl ?_
          | refine LOps.valG (LVal.takeMap hD rfl rfl rfl rfl rfl rfl (by first | assumption | omega) rfl (fun _ _ => rfl)) rfl rfl rfl ?_
          | refine LOps.valG (LVal.dropMap hD rfl rfl rfl rfl rfl rfl (by first | assumption | omega) rfl (fun _ _ => rfl)) rfl rfl rfl ?_
          | refine LOps.valG (LVal.cutMap hD rfl rfl rfl rfl rfl rfl rfl (by first | assumption | omega) (by first | assumption | omega) rfl (fun _ _ => rfl)) rfl rfl rfl ?_
          | refine LOps.valG (LVal.move2 rfl rfl) rfl rfl rfl ?_
          | refine LOps.valG (LVal.assign2 rfl rfl) rfl rfl rfl ?_
          | refine LOps.valG (LVal.move (.inl rfl)) rfl rfl rfl ?_
          | refine LOps.valG (LVal.move (.inr rfl)) rfl rfl rfl ?_
          | (refine LOps.do0 (LDo.store hD rfl rfl (by first | assumption | exact box_new _ _ _ | exact box_set _ _ _ | (simp only [box_new, box_set, box_row, box_new_ne, box_set_ne, ne_eq, not_false_eq_true, *]; done) | (simp only [box_new, box_set, box_row, box_new_ne, box_set_ne, ne_eq, not_false_eq_true, *]; rfl)) rfl rfl rfl rfl) rfl rfl ?_; rintro _ _ ⟨rfl, rfl⟩))
        refine LWp.condT rfl ?_
        repeat (first
          | refine LOps.nil ?_
          | refine andThen_normal ?_
          | refine andThen_exit ?_
          | refine andThen_ret ?_
          | refine inBlock_normal ?_
          | refine inBlock_ret ?_
          | refine inBlock_here ?_
          | refine inBlock_out rfl ?_
          | refine LWp.seq ?_
          | refine LWp.region ?_
          | refine LWp.block ?_
          | refine LWp.exit ?_
          | refine LWp.ret ?_
          | refine LWp.skip ?_
          | refine LOps.val (LVal.move1 rfl rfl) rfl rfl rfl ?_
          | refine LOps.val (LVal.assign1 rfl rfl) rfl rfl rfl ?_
          | refine LOps.val (LVal.len hD rfl rfl rfl rfl) rfl rfl rfl ?_
          | refine LOps.val (LVal.lenStr hD rfl rfl rfl rfl) rfl rfl rfl ?_
          | refine LOps.val (LVal.add64 rfl rfl rfl (by omega)) rfl rfl rfl ?_
          | refine LOps.val (LVal.sub64 rfl rfl rfl (by omega)) rfl rfl rfl ?_
          | refine LOps.val (LVal.addU64 rfl rfl rfl (by omega)) rfl rfl rfl ?_
          | refine LOps.val (LVal.subU64 rfl rfl rfl (by omega)) rfl rfl rfl ?_
          | refine LOps.val (LVal.mulU64 rfl rfl rfl (by omega)) rfl rfl rfl ?_
          | refine LOps.val (LVal.remI rfl rfl rfl (by omega)) rfl rfl rfl ?_
          | refine LOps.val (LVal.quoU64 rfl rfl rfl (by omega)) rfl rfl rfl ?_
          | refine LOps.val (LVal.quo64 rfl rfl rfl (by omega)) rfl rfl rfl ?_
          | refine LOps.val (LVal.mul64 rfl rfl rfl (by omega)) rfl rfl rfl ?_
          | refine LOps.val (LVal.conv64 hD rfl rfl rfl rfl rfl (by omega)) rfl rfl rfl ?_
          | refine LOps.val (LVal.convU64 hD rfl rfl rfl rfl rfl (by omega)) rfl rfl rfl ?_
          | refine LOps.val (LVal.neqSame hD rfl rfl rfl) rfl rfl rfl ?_
          | refine LOps.val (LVal.neqSameB hD rfl rfl rfl rfl rfl) rfl rfl rfl ?_
          | refine LOps.val (LVal.binOp hD rfl rfl rfl rfl) rfl rfl rfl ?_
          | refine LOps.val (LVal.unOp rfl rfl rfl) rfl rfl rfl ?_
          | refine LOps.val (LVal.pick rfl rfl) rfl rfl rfl ?_
          | refine LOps.val (LVal.extract rfl rfl rfl) rfl rfl rfl ?_
          | refine LOps.val (LVal.convInt hD rfl rfl rfl rfl rfl) rfl rfl rfl ?_
          | refine LOps.val (LVal.fieldAddr hD rfl rfl rfl rfl rfl rfl (by decide)) rfl rfl rfl ?_
          | refine LOps.val (LVal.load hD rfl rfl (by first | assumption | exact box_new _ _ _ | exact box_set _ _ _ | (simp only [box_new, box_set, box_row, box_new_ne, box_set_ne, ne_eq, not_false_eq_true, *]; done) | (simp only [box_new, box_set, box_row, box_new_ne, box_set_ne, ne_eq, not_false_eq_true, *]; rfl)) rfl rfl) rfl rfl rfl ?_
          | refine LOps.val (LVal.indexMap hD rfl rfl rfl rfl rfl rfl (by first | assumption | omega) rfl) rfl rfl rfl ?_
          | refine LOps.val (LVal.loadRo hD rfl rfl rfl rfl) rfl rfl rfl ?_
          | refine LOps.val (LVal.fieldAddrRo hD rfl rfl rfl rfl rfl rfl (by decide)) rfl rfl rfl ?_
          | refine LOps.val (LVal.field hD rfl rfl rfl rfl rfl rfl rfl) rfl rfl rfl ?_
          | refine LOps.val (LVal.buildSlice1 hD rfl rfl rfl rfl rfl rfl rfl rfl rfl rfl) rfl rfl rfl ?_
          | refine LOps.val (LVal.build hD rfl rfl rfl rfl rfl rfl rfl) rfl rfl rfl ?_
          | refine LOps.val (LVal.buildSlice hD rfl rfl rfl rfl rfl rfl rfl rfl rfl rfl) rfl rfl rfl ?_
          | refine LOps.val (LVal.takeMap hD rfl rfl rfl rfl rfl rfl (by first | assumption | omega) rfl (fun _ _ => rfl)) rfl rfl rfl ?_
          | refine LOps.val (LVal.dropMap hD rfl rfl rfl rfl rfl rfl (by first | assumption | omega) rfl (fun _ _ => rfl)) rfl rfl rfl ?_
          | refine LOps.val (LVal.cutMap hD rfl rfl rfl rfl rfl rfl rfl (by first | assumption | omega) (by first | assumption | omega) rfl (fun _ _ => rfl)) rfl rfl rfl ?_
          | refine LOps.val (LVal.move2 rfl rfl) rfl rfl rfl ?_
          | refine LOps.val (LVal.assign2 rfl rfl) rfl rfl rfl ?_
          | refine LOps.val (LVal.move (.inl rfl)) rfl rfl rfl ?_
          | refine LOps.val (LVal.move (.inr rfl)) rfl rfl rfl ?_
          | refine LOps.out rfl rfl rfl ?_
          | refine LOps.valG (LVal.move1 rfl rfl) rfl rfl rfl ?_
          | refine LOps.valG (LVal.assign1 rfl rfl) rfl rfl rfl ?_
          | refine LOps.valG (LVal.len hD rfl rfl rfl rfl) rfl rfl rfl ?_
          | refine LOps.valG (LVal.lenStr hD rfl rfl rfl rfl) rfl rfl rfl ?_
          | refine LOps.valG (LVal.add64 rfl rfl rfl (by omega)) rfl rfl rfl ?_
          | refine LOps.valG (LVal.sub64 rfl rfl rfl (by omega)) rfl rfl rfl ?_
          | refine LOps.valG (LVal.addU64 rfl rfl rfl (by omega)) rfl rfl rfl ?_
          | refine LOps.valG (LVal.subU64 rfl rfl rfl (by omega)) rfl rfl rfl ?_
          | refine LOps.valG (LVal.mulU64 rfl rfl rfl (by omega)) rfl rfl rfl ?_
          | refine LOps.valG (LVal.remI rfl rfl rfl (by omega)) rfl rfl rfl ?_
          | refine LOps.valG (LVal.quoU64 rfl rfl rfl (by omega)) rfl rfl rfl ?_
          | refine LOps.valG (LVal.quo64 rfl rfl rfl (by omega)) rfl rfl rfl ?_
          | refine LOps.valG (LVal.mul64 rfl rfl rfl (by omega)) rfl rfl rfl ?_
          | refine LOps.valG (LVal.conv64 hD rfl rfl rfl rfl rfl (by omega)) rfl rfl rfl ?_
          | refine LOps.valG (LVal.convU64 hD rfl rfl rfl rfl rfl (by omega)) rfl rfl rfl ?_
          | refine LOps.valG (LVal.neqSame hD rfl rfl rfl) rfl rfl rfl ?_
          | refine LOps.valG (LVal.neqSameB hD rfl rfl rfl rfl rfl) rfl rfl rfl ?_
          | refine LOps.valG (LVal.binOp hD rfl rfl rfl rfl) rfl rfl rfl ?_
          | refine LOps.valG (LVal.unOp rfl rfl rfl) rfl rfl rfl ?_
          | refine LOps.valG (LVal.pick rfl rfl) rfl rfl rfl ?_
          | refine LOps.valG (LVal.extract rfl rfl rfl) rfl rfl rfl ?_
          | refine LOps.valG (LVal.convInt hD rfl rfl rfl rfl rfl) rfl rfl rfl ?_
          | refine LOps.valG (LVal.fieldAddr hD rfl rfl rfl rfl rfl rfl (by decide)) rfl rfl rfl ?_
          | refine LOps.valG (LVal.load hD rfl rfl (by first | assumption | exact box_new _ _ _ | exact box_set _ _ _ | (simp only [box_new, box_set, box_row, box_new_ne, box_set_ne, ne_eq, not_false_eq_true, *]; done) | (simp only [box_new, box_set, box_row, box_new_ne, box_set_ne, ne_eq, not_false_eq_true, *]; rfl)) rfl rfl) rfl rfl rfl ?_
          | refine LOps.valG (LVal.indexMap hD rfl rfl rfl rfl rfl rfl (by first | assumption | omega) rfl) rfl rfl rfl ?_
          | refine LOps.valG (LVal.loadRo hD rfl rfl rfl rfl) rfl rfl rfl ?_
          | refine LOps.valG (LVal.fieldAddrRo hD rfl rfl rfl rfl rfl rfl (by decide)) rfl rfl rfl ?_
          | refine LOps.valG (LVal.field hD rfl rfl rfl rfl rfl rfl rfl) rfl rfl rfl ?_
          | refine LOps.valG (LVal.buildSlice1 hD rfl rfl rfl rfl rfl rfl rfl rfl rfl rfl) rfl rfl rfl ?_
          | refine LOps.valG (LVal.build hD rfl rfl rfl rfl rfl rfl rfl) rfl rfl rfl ?_
          | refine LOps.valG (LVal.buildSlice hD rfl rfl rfl rfl rfl rfl rfl rfl rfl rfl) rfl rfl rfl ?_
          | refine LOps.valG (LVal.takeMap hD rfl rfl rfl rfl rfl rfl (by first | assumption | omega) rfl (fun _ _ => rfl)) rfl rfl rfl ?_
          | refine LOps.valG (LVal.dropMap hD rfl rfl rfl rfl rfl rfl (by first | assumption | omega) rfl (fun _ _ => rfl)) rfl rfl rfl ?_
          | refine LOps.valG (LVal.cutMap hD rfl rfl rfl rfl rfl rfl rfl (by first | assumption | omega) (by first | assumption | omega) rfl (fun _ _ => rfl)) rfl rfl rfl ?_
          | refine LOps.valG (LVal.move2 rfl rfl) rfl rfl rfl ?_
          | refine LOps.valG (LVal.assign2 rfl rfl) rfl rfl rfl ?_
          | refine LOps.valG (LVal.move (.inl rfl)) rfl rfl rfl ?_
          | refine LOps.valG (LVal.move (.inr rfl)) rfl rfl rfl ?_
          | (refine LOps.do0 (LDo.store hD rfl rfl (by first | assumption | exact box_new _ _ _ | exact box_set _ _ _ | (simp only [box_new, box_set, box_row, box_new_ne, box_set_ne, ne_eq, not_false_eq_true, *]; done) | (simp only [box_new, box_set, box_row, box_new_ne, box_set_ne, ne_eq, not_false_eq_true, *]; rfl)) rfl rfl rfl rfl) rfl rfl ?_; rintro _ _ ⟨rfl, rfl⟩))
        exact hbad _ (box_set _ _ _) (hle.setBox hbr.box _) (hnot (List.mem_of_mem_take (of_decide_eq_true hg2))) _ rfl rfl
      · repeat (first
          | refine LOps.valG (LVal.call rfl rfl (by rw [hP]; exact Try.func24) rfl (by decide) (has_F hP _ (q / 16 % 16) (by simp; omega))) rfl rfl rfl ?_
          | refine LOps.nil ?_
          | refine andThen_normal ?_
          | refine andThen_exit ?_
          | refine andThen_ret ?_
          | refine inBlock_normal ?_
          | refine inBlock_ret ?_
          | refine inBlock_here ?_
          | refine inBlock_out rfl ?_
          | refine LWp.seq ?_
          | refine LWp.region ?_
          | refine LWp.block ?_
          | refine LWp.exit ?_
          | refine LWp.ret ?_
          | refine LWp.skip ?_
          | refine LOps.val (LVal.move1 rfl rfl) rfl rfl rfl ?_
          | refine LOps.val (LVal.assign1 rfl rfl) rfl rfl rfl ?_
          | refine LOps.val (LVal.len hD rfl rfl rfl rfl) rfl rfl rfl ?_
          | refine LOps.val (LVal.lenStr hD rfl rfl rfl rfl) rfl rfl rfl ?_
          | refine LOps.val (LVal.add64 rfl rfl rfl (by omega)) rfl rfl rfl ?_
          | refine LOps.val (LVal.sub64 rfl rfl rfl (by omega)) rfl rfl rfl ?_
          | refine LOps.val (LVal.addU64 rfl rfl rfl (by omega)) rfl rfl rfl ?_
          | refine LOps.val (LVal.subU64 rfl rfl rfl (by omega)) rfl rfl rfl ?_
          | refine LOps.val (LVal.mulU64 rfl rfl rfl (by omega)) rfl rfl rfl ?_
          | refine LOps.val (LVal.remI rfl rfl rfl (by omega)) rfl rfl rfl ?_
          | refine LOps.val (LVal.quoU64 rfl rfl rfl (by omega)) rfl rfl rfl ?_
          | refine LOps.val (LVal.quo64 rfl rfl rfl (by omega)) rfl rfl rfl ?_
          | refine LOps.val (LVal.mul64 rfl rfl rfl (by omega)) rfl rfl rfl ?_
          | refine LOps.val (LVal.conv64 hD rfl rfl rfl rfl rfl (by omega)) rfl rfl rfl ?_
          | refine LOps.val (LVal.convU64 hD rfl rfl rfl rfl rfl (by omega)) rfl rfl rfl ?_
          | refine LOps.val (LVal.neqSame hD rfl rfl rfl) rfl rfl rfl ?_
          | refine LOps.val (LVal.neqSameB hD rfl rfl rfl rfl rfl) rfl rfl rfl ?_
          | refine LOps.val (LVal.binOp hD rfl rfl rfl rfl) rfl rfl rfl ?_
          | refine LOps.val (LVal.unOp rfl rfl rfl) rfl rfl rfl ?_
          | refine LOps.val (LVal.pick rfl rfl) rfl rfl rfl ?_
          | refine LOps.val (LVal.extract rfl rfl rfl) rfl rfl rfl ?_
          | refine LOps.val (LVal.convInt hD rfl rfl rfl rfl rfl) rfl rfl rfl ?_
          | refine LOps.val (LVal.fieldAddr hD rfl rfl rfl rfl rfl rfl (by decide)) rfl rfl rfl ?_
          | refine LOps.val (LVal.load hD rfl rfl (by first | assumption | exact box_new _ _ _ | exact box_set _ _ _ | (simp only [box_new, box_set, box_row, box_new_ne, box_set_ne, ne_eq, not_false_eq_true, *]; done) | (simp only [box_new, box_set, box_row, box_new_ne, box_set_ne, ne_eq, not_false_eq_true, *]; rfl)) rfl rfl) rfl rfl rfl ?_
          | refine LOps.val (LVal.indexMap hD rfl rfl rfl rfl rfl rfl (by first | assumption | omega) rfl) rfl rfl rfl ?_
          | refine LOps.val (LVal.loadRo hD rfl rfl rfl rfl) rfl rfl rfl ?_
          | refine LOps.val (LVal.fieldAddrRo hD rfl rfl rfl rfl rfl rfl (by decide)) rfl rfl rfl ?_
          | refine LOps.val (LVal.field hD rfl rfl rfl rfl rfl rfl rfl) rfl rfl rfl ?_
          | refine LOps.val (LVal.buildSlice1 hD rfl rfl rfl rfl rfl rfl rfl rfl rfl rfl) rfl rfl rfl ?_
          | refine LOps.val (LVal.build hD rfl rfl rfl rfl rfl rfl rfl) rfl rfl rfl ?_
          | refine LOps.val (LVal.buildSlice hD rfl rfl rfl rfl rfl rfl rfl rfl rfl rfl) rfl rfl rfl ?_
          | refine LOps.val (LVal.takeMap hD rfl rfl rfl rfl rfl rfl (by first | assumption | omega) rfl (fun _ _ => rfl)) rfl rfl rfl ?_
          | refine LOps.val (LVal.dropMap hD rfl rfl rfl rfl rfl rfl (by first | assumption | omega) rfl (fun _ _ => rfl)) rfl rfl rfl ?_
          | refine LOps.val (LVal.cutMap hD rfl rfl rfl rfl rfl rfl rfl (by first | assumption | omega) (by first | assumption | omega) rfl (fun _ _ => rfl)) rfl rfl rfl ?_
          | refine LOps.val (LVal.move2 rfl rfl) rfl rfl rfl ?_
          | refine LOps.val (LVal.assign2 rfl rfl) rfl rfl rfl ?_
          | refine LOps.val (LVal.move (.inl rfl)) rfl rfl rfl ?_
          | refine LOps.val (LVal.move (.inr rfl)) rfl rfl rfl ?_
          | refine LOps.out rfl rfl rfl ?_
          | refine LOps.valG (LVal.move1 rfl rfl) rfl rfl rfl ?_
          | refine LOps.valG (LVal.assign1 rfl rfl) rfl rfl rfl ?_
          | refine LOps.valG (LVal.len hD rfl rfl rfl rfl) rfl rfl rfl ?_
          | refine LOps.valG (LVal.lenStr hD rfl rfl rfl rfl) rfl rfl rfl ?_
          | refine LOps.valG (LVal.add64 rfl rfl rfl (by omega)) rfl rfl rfl ?_
          | refine LOps.valG (LVal.sub64 rfl rfl rfl (by omega)) rfl rfl rfl ?_
          | refine LOps.valG (LVal.addU64 rfl rfl rfl (by omega)) rfl rfl rfl ?_
          | refine LOps.valG (LVal.subU64 rfl rfl rfl (by omega)) rfl rfl rfl ?_
          | refine LOps.valG (LVal.mulU64 rfl rfl rfl (by omega)) rfl rfl rfl ?_
          | refine LOps.valG (LVal.remI rfl rfl rfl (by omega)) rfl rfl rfl ?_
          | refine LOps.valG (LVal.quoU64 rfl rfl rfl (by omega)) rfl rfl rfl ?_
          | refine LOps.valG (LVal.quo64 rfl rfl rfl (by omega)) rfl rfl rfl ?_
          | refine LOps.valG (LVal.mul64 rfl rfl rfl (by omega)) rfl rfl rfl ?_
          | refine LOps.valG (LVal.conv64 hD rfl rfl rfl rfl rfl (by omega)) rfl rfl rfl ?_
          | refine LOps.valG (LVal.convU64 hD rfl rfl rfl rfl rfl (by omega)) rfl rfl rfl ?_
          | refine LOps.valG (LVal.neqSame hD rfl rfl rfl) rfl rfl rfl ?_
          | refine LOps.valG (LVal.neqSameB hD rfl rfl rfl rfl rfl) rfl rfl rfl ?_
          | refine LOps.valG (LVal.binOp hD rfl rfl rfl rfl) rfl rfl rfl ?_
          | refine LOps.valG (LVal.unOp rfl rfl rfl) rfl rfl rfl ?_
          | refine LOps.valG (LVal.pick rfl rfl) rfl rfl rfl ?_
          | refine LOps.valG (LVal.extract rfl rfl rfl) rfl rfl rfl ?_
          | refine LOps.valG (LVal.convInt hD rfl rfl rfl rfl rfl) rfl rfl rfl ?_
          | refine LOps.valG (LVal.fieldAddr hD rfl rfl rfl rfl rfl rfl (by decide)) rfl rfl rfl ?_
          | refine LOps.valG (LVal.load hD rfl rfl (by first | assumption | exact box_new _ _ _ | exact box_set _ _ _ | (simp only [box_new, box_set, box_row, box_new_ne, box_set_ne, ne_eq, not_false_eq_true, *]; done) | (simp only [box_new, box_set, box_row, box_new_ne, box_set_ne, ne_eq, not_false_eq_true, *]; rfl)) rfl rfl) rfl rfl rfl ?_
          | refine LOps.valG (LVal.indexMap hD rfl rfl rfl rfl rfl rfl (by first | assumption | omega) rfl) rfl rfl rfl ?_
          | refine LOps.valG (LVal.loadRo hD rfl rfl rfl rfl) rfl rfl rfl ?_
          | refine LOps.valG (LVal.fieldAddrRo hD rfl rfl rfl rfl rfl rfl (by decide)) rfl rfl rfl ?_
          | refine LOps.valG (LVal.field hD rfl rfl rfl rfl rfl rfl rfl) rfl rfl rfl ?_
          | refine LOps.valG (LVal.buildSlice1 hD rfl rfl rfl rfl rfl rfl rfl rfl rfl rfl) rfl rfl rfl ?_
          | refine LOps.valG (LVal.build hD rfl rfl rfl rfl rfl rfl rfl) rfl rfl rfl ?_
          | refine LOps.valG (LVal.buildSlice hD rfl rfl rfl rfl rfl rfl rfl rfl rfl rfl) rfl rfl rfl ?_
          | refine LOps.valG (LVal.takeMap hD rfl rfl rfl rfl rfl rfl (by first | assumption | omega) rfl (fun _ _ => rfl)) rfl rfl rfl ?_
          | refine LOps.valG (LVal.dropMap hD rfl rfl rfl rfl rfl rfl (by first | assumption | omega) rfl (fun _ _ => rfl)) rfl rfl rfl ?_
          | refine LOps.valG (LVal.cutMap hD rfl rfl rfl rfl rfl rfl rfl (by first | assumption | omega) (by first | assumption | omega) rfl (fun _ _ => rfl)) rfl rfl rfl ?_
          | refine LOps.valG (LVal.move2 rfl rfl) rfl rfl rfl ?_
          | refine LOps.valG (LVal.assign2 rfl rfl) rfl rfl rfl ?_
          | refine LOps.valG (LVal.move (.inl rfl)) rfl rfl rfl ?_
          | refine LOps.valG (LVal.move (.inr rfl)) rfl rfl rfl ?_
          | (refine LOps.do0 (LDo.store hD rfl rfl (by first | assumption | exact box_new _ _ _ | exact box_set _ _ _ | (simp only [box_new, box_set, box_row, box_new_ne, box_set_ne, ne_eq, not_false_eq_true, *]; done) | (simp only [box_new, box_set, box_row, box_new_ne, box_set_ne, ne_eq, not_false_eq_true, *]; rfl)) rfl rfl rfl rfl) rfl rfl ?_; rintro _ _ ⟨rfl, rfl⟩))
        refine LWp.cond rfl (fun h => ?_) (fun h => ?_)
        · repeat (first
            | refine LOps.nil ?_
            | refine andThen_normal ?_
            | refine andThen_exit ?_
            | refine andThen_ret ?_
            | refine inBlock_normal ?_
            | refine inBlock_ret ?_
            | refine inBlock_here ?_
            | refine inBlock_out rfl ?_
            | refine LWp.seq ?_
            | refine LWp.region ?_
            | refine LWp.block ?_
            | refine LWp.exit ?_
            | refine LWp.ret ?_
            | refine LWp.skip ?_
            | refine LOps.val (LVal.move1 rfl rfl) rfl rfl rfl ?_
            | refine LOps.val (LVal.assign1 rfl rfl) rfl rfl rfl ?_
            | refine LOps.val (LVal.len hD rfl rfl rfl rfl) rfl rfl rfl ?_
            | refine LOps.val (LVal.lenStr hD rfl rfl rfl rfl) rfl rfl rfl ?_
            | refine LOps.val (LVal.add64 rfl rfl rfl (by omega)) rfl rfl rfl ?_
            | refine LOps.val (LVal.sub64 rfl rfl rfl (by omega)) rfl rfl rfl ?_
            | refine LOps.val (LVal.addU64 rfl rfl rfl (by omega)) rfl rfl rfl ?_
            | refine LOps.val (LVal.subU64 rfl rfl rfl (by omega)) rfl rfl rfl ?_
            | refine LOps.val (LVal.mulU64 rfl rfl rfl (by omega)) rfl rfl rfl ?_
            | refine LOps.val (LVal.remI rfl rfl rfl (by omega)) rfl rfl rfl ?_
            | refine LOps.val (LVal.quoU64 rfl rfl rfl (by omega)) rfl rfl rfl ?_
            | refine LOps.val (LVal.quo64 rfl rfl rfl (by omega)) rfl rfl rfl ?_
            | refine LOps.val (LVal.mul64 rfl rfl rfl (by omega)) rfl rfl rfl ?_
            | refine LOps.val (LVal.conv64 hD rfl rfl rfl rfl rfl (by omega)) rfl rfl rfl ?_
            | refine LOps.val (LVal.convU64 hD rfl rfl rfl rfl rfl (by omega)) rfl rfl rfl ?_
            | refine LOps.val (LVal.neqSame hD rfl rfl rfl) rfl rfl rfl ?_
            | refine LOps.val (LVal.neqSameB hD rfl rfl rfl rfl rfl) rfl rfl rfl ?_
            | refine LOps.val (LVal.binOp hD rfl rfl rfl rfl) rfl rfl rfl ?_
            | refine LOps.val (LVal.unOp rfl rfl rfl) rfl rfl rfl ?_
            | refine LOps.val (LVal.pick rfl rfl) rfl rfl rfl ?_
            | refine LOps.val (LVal.extract rfl rfl rfl) rfl rfl rfl ?_
            | refine LOps.val (LVal.convInt hD rfl rfl rfl rfl rfl) rfl rfl rfl ?_
            | refine LOps.val (LVal.fieldAddr hD rfl rfl rfl rfl rfl rfl (by decide)) rfl rfl rfl ?_
            | refine LOps.val (LVal.load hD rfl rfl (by first | assumption | exact box_new _ _ _ | exact box_set _ _ _ | (simp only [box_new, box_set, box_row, box_new_ne, box_set_ne, ne_eq, not_false_eq_true, *]; done) | (simp only [box_new, box_set, box_row, box_new_ne, box_set_ne, ne_eq, not_false_eq_true, *]; rfl)) rfl rfl) rfl rfl rfl ?_
            | refine LOps.val (LVal.indexMap hD rfl rfl rfl rfl rfl rfl (by first | assumption | omega) rfl) rfl rfl rfl ?_
            | refine LOps.val (LVal.loadRo hD rfl rfl rfl rfl) rfl rfl rfl ?_
            | refine LOps.val (LVal.fieldAddrRo hD rfl rfl rfl rfl rfl rfl (by decide)) rfl rfl rfl ?_
            | refine LOps.val (LVal.field hD rfl rfl rfl rfl rfl rfl rfl) rfl rfl rfl ?_
            | refine LOps.val (LVal.buildSlice1 hD rfl rfl rfl rfl rfl rfl rfl rfl rfl rfl) rfl rfl rfl ?_
            | refine LOps.val (LVal.build hD rfl rfl rfl rfl rfl rfl rfl) rfl rfl rfl ?_
            | refine LOps.val (LVal.buildSlice hD rfl rfl rfl rfl rfl rfl rfl rfl rfl rfl) rfl rfl rfl ?_
            | refine LOps.val (LVal.takeMap hD rfl rfl rfl rfl rfl rfl (by first | assumption | omega) rfl (fun _ _ => rfl)) rfl rfl rfl ?_
            | refine LOps.val (LVal.dropMap hD rfl rfl rfl rfl rfl rfl (by first | assumption | omega) rfl (fun _ _ => rfl)) rfl rfl rfl ?_
            | refine LOps.val (LVal.cutMap hD rfl rfl rfl rfl rfl rfl rfl (by first | assumption | omega) (by first | assumption | omega) rfl (fun _ _ => rfl)) rfl rfl rfl ?_
            | refine LOps.val (LVal.move2 rfl rfl) rfl rfl rfl ?_
            | refine LOps.val (LVal.assign2 rfl rfl) rfl rfl rfl ?_
            | refine LOps.val (LVal.move (.inl rfl)) rfl rfl rfl ?_
            | refine LOps.val (LVal.move (.inr rfl)) rfl rfl rfl ?_
            | refine LOps.out rfl rfl rfl ?_
            | refine LOps.valG (LVal.move1 rfl rfl) rfl rfl rfl ?_
            | refine LOps.valG (LVal.assign1 rfl rfl) rfl rfl rfl ?_
            | refine LOps.valG (LVal.len hD rfl rfl rfl rfl) rfl rfl rfl ?_
            | refine LOps.valG (LVal.lenStr hD rfl rfl rfl rfl) rfl rfl rfl ?_
            | refine LOps.valG (LVal.add64 rfl rfl rfl (by omega)) rfl rfl rfl ?_
            | refine LOps.valG (LVal.sub64 rfl rfl rfl (by omega)) rfl rfl rfl ?_
            | refine LOps.valG (LVal.addU64 rfl rfl rfl (by omega)) rfl rfl rfl ?_
            | refine LOps.valG (LVal.subU64 rfl rfl rfl (by omega)) rfl rfl rfl ?_
            | refine LOps.valG (LVal.mulU64 rfl rfl rfl (by omega)) rfl rfl rfl ?_
            | refine LOps.valG (LVal.remI rfl rfl rfl (by omega)) rfl rfl rfl ?_
            | refine LOps.valG (LVal.quoU64 rfl rfl rfl (by omega)) rfl rfl rfl ?_
            | refine LOps.valG (LVal.quo64 rfl rfl rfl (by omega)) rfl rfl rfl ?_
            | refine LOps.valG (LVal.mul64 rfl rfl rfl (by omega)) rfl rfl rfl ?_
            | refine LOps.valG (LVal.conv64 hD rfl rfl rfl rfl rfl (by omega)) rfl rfl rfl ?_
            | refine LOps.valG (LVal.convU64 hD rfl rfl rfl rfl rfl (by omega)) rfl rfl rfl ?_
            | refine LOps.valG (LVal.neqSame hD rfl rfl rfl) rfl rfl rfl ?_
            | refine LOps.valG (LVal.neqSameB hD rfl rfl rfl rfl rfl) rfl rfl rfl ?_
            | refine LOps.valG (LVal.binOp hD rfl rfl rfl rfl) rfl rfl rfl ?_
            | refine LOps.valG (LVal.unOp rfl rfl rfl) rfl rfl rfl ?_
            | refine LOps.valG (LVal.pick rfl rfl) rfl rfl rfl ?_
            | refine LOps.valG (LVal.extract rfl rfl rfl) rfl rfl rfl ?_
            | refine LOps.valG (LVal.convInt hD rfl rfl rfl rfl rfl) rfl rfl rfl ?_
            | refine LOps.valG (LVal.fieldAddr hD rfl rfl rfl rfl rfl rfl (by decide)) rfl rfl rfl ?_
            | refine LOps.valG (LVal.load hD rfl rfl (by first | assumption | exact box_new _ _ _ | exact box_set _ _ _ | (simp only [box_new, box_set, box_row, box_new_ne, box_set_ne, ne_eq, not_false_eq_true, *]; done) | (simp only [box_new, box_set, box_row, box_new_ne, box_set_ne, ne_eq, not_false_eq_true, *]; rfl)) rfl rfl) rfl rfl rfl ?_
            | refine LOps.valG (LVal.indexMap hD rfl rfl rfl rfl rfl rfl (by first | assumption | omega) rfl) rfl rfl rfl ?_
            | refine LOps.valG (LVal.loadRo hD rfl rfl rfl rfl) rfl rfl rfl ?_
            | refine LOps.valG (LVal.fieldAddrRo hD rfl rfl rfl rfl rfl rfl (by decide)) rfl rfl rfl ?_
            | refine LOps.valG (LVal.field hD rfl rfl rfl rfl rfl rfl rfl) rfl rfl rfl ?_
            | refine LOps.valG (LVal.buildSlice1 hD rfl rfl rfl rfl rfl rfl rfl rfl rfl rfl) rfl rfl rfl ?_
            | refine LOps.valG (LVal.build hD rfl rfl rfl rfl rfl rfl rfl) rfl rfl rfl ?_
            | refine LOps.valG (LVal.buildSlice hD rfl rfl rfl rfl rfl rfl rfl rfl rfl rfl) rfl rfl rfl ?_
            | refine LOps.valG (LVal.takeMap hD rfl rfl rfl rfl rfl rfl (by first | assumption | omega) rfl (fun _ _ => rfl)) rfl rfl rfl ?_
            | refine LOps.valG (LVal.dropMap hD rfl rfl rfl rfl rfl rfl (by first | assumption | omega) rfl (fun _ _ => rfl)) rfl rfl rfl ?_
            | refine LOps.valG (LVal.cutMap hD rfl rfl rfl rfl rfl rfl rfl (by first | assumption | omega) (by first | assumption | omega) rfl (fun _ _ => rfl)) rfl rfl rfl ?_
            | refine LOps.valG (LVal.move2 rfl rfl) rfl rfl rfl ?_
            | refine LOps.valG (LVal.assign2 rfl rfl) rfl rfl rfl ?_
            | refine LOps.valG (LVal.move (.inl rfl)) rfl rfl rfl ?_
            | refine LOps.valG (LVal.move (.inr rfl)) rfl rfl rfl ?_
            | (refine LOps.do0 (LDo.store hD rfl rfl (by first | assumption | exact box_new _ _ _ | exact box_set _ _ _ | (simp only [box_new, box_set, box_row, box_new_ne, box_set_ne, ne_eq, not_false_eq_true, *]; done) | (simp only [box_new, box_set, box_row, box_new_ne, box_set_ne, ne_eq, not_false_eq_true, *]; rfl)) rfl rfl rfl rfl) rfl rfl ?_; rintro _ _ ⟨rfl, rfl⟩))
          exact hbad _ (box_set _ _ _) (hle.setBox hbr.box _) (hnot (List.mem_of_mem_drop (of_decide_eq_true h))) _ rfl rfl
        · have hxn : q / 16 % 16 ∉ L.take k := fun hm => by
            rw [← List.take_append_drop n (L.take k)] at hm
            rcases List.mem_append.1 hm with hm | hm
            · exact of_decide_eq_false hg2 hm
            · exact of_decide_eq_false h hm
          have hnd' : (L.take (k + 1)).Nodup := by
            rw [htk]
            exact List.nodup_append.2 ⟨hnd, by simp, fun a ha b hb e => by simp at hb; subst hb; subst e; exact hxn ha⟩
          have hbd' : ∀ y ∈ L.take (k + 1), y < 15 := by
            rw [htk]
            intro y hy
            rcases List.mem_append.1 hy with h | h
            · exact hbd y h
            · simp at h; omega
          repeat (first
            | refine LOps.nil ?_
            | refine andThen_normal ?_
            | refine andThen_exit ?_
            | refine andThen_ret ?_
            | refine inBlock_normal ?_
            | refine inBlock_ret ?_
            | refine inBlock_here ?_
            | refine inBlock_out rfl ?_
            | refine LWp.seq ?_
            | refine LWp.region ?_
            | refine LWp.block ?_
            | refine LWp.exit ?_
            | refine LWp.ret ?_
            | refine LWp.skip ?_
            | refine LOps.val (LVal.move1 rfl rfl) rfl rfl rfl ?_
            | refine LOps.val (LVal.assign1 rfl rfl) rfl rfl rfl ?_
            | refine LOps.val (LVal.len hD rfl rfl rfl rfl) rfl rfl rfl ?_
            | refine LOps.val (LVal.lenStr hD rfl rfl rfl rfl) rfl rfl rfl ?_
            | refine LOps.val (LVal.add64 rfl rfl rfl (by omega)) rfl rfl rfl ?_
            | refine LOps.val (LVal.sub64 rfl rfl rfl (by omega)) rfl rfl rfl ?_
            | refine LOps.val (LVal.addU64 rfl rfl rfl (by omega)) rfl rfl rfl ?_
            | refine LOps.val (LVal.subU64 rfl rfl rfl (by omega)) rfl rfl rfl ?_
            | refine LOps.val (LVal.mulU64 rfl rfl rfl (by omega)) rfl rfl rfl ?_
            | refine LOps.val (LVal.remI rfl rfl rfl (by omega)) rfl rfl rfl ?_
            | refine LOps.val (LVal.quoU64 rfl rfl rfl (by omega)) rfl rfl rfl ?_
            | refine LOps.val (LVal.quo64 rfl rfl rfl (by omega)) rfl rfl rfl ?_
            | refine LOps.val (LVal.mul64 rfl rfl rfl (by omega)) rfl rfl rfl ?_
            | refine LOps.val (LVal.conv64 hD rfl rfl rfl rfl rfl (by omega)) rfl rfl rfl ?_
            | refine LOps.val (LVal.convU64 hD rfl rfl rfl rfl rfl (by omega)) rfl rfl rfl ?_
            | refine LOps.val (LVal.neqSame hD rfl rfl rfl) rfl rfl rfl ?_
            | refine LOps.val (LVal.neqSameB hD rfl rfl rfl rfl rfl) rfl rfl rfl ?_
            | refine LOps.val (LVal.binOp hD rfl rfl rfl rfl) rfl rfl rfl ?_
            | refine LOps.val (LVal.unOp rfl rfl rfl) rfl rfl rfl ?_
            | refine LOps.val (LVal.pick rfl rfl) rfl rfl rfl ?_
            | refine LOps.val (LVal.extract rfl rfl rfl) rfl rfl rfl ?_
            | refine LOps.val (LVal.convInt hD rfl rfl rfl rfl rfl) rfl rfl rfl ?_
            | refine LOps.val (LVal.fieldAddr hD rfl rfl rfl rfl rfl rfl (by decide)) rfl rfl rfl ?_
            | refine LOps.val (LVal.load hD rfl rfl (by first | assumption | exact box_new _ _ _ | exact box_set _ _ _ | (simp only [box_new, box_set, box_row, box_new_ne, box_set_ne, ne_eq, not_false_eq_true, *]; done) | (simp only [box_new, box_set, box_row, box_new_ne, box_set_ne, ne_eq, not_false_eq_true, *]; rfl)) rfl rfl) rfl rfl rfl ?_
            | refine LOps.val (LVal.indexMap hD rfl rfl rfl rfl rfl rfl (by first | assumption | omega) rfl) rfl rfl rfl ?_
            | refine LOps.val (LVal.loadRo hD rfl rfl rfl rfl) rfl rfl rfl ?_
            | refine LOps.val (LVal.fieldAddrRo hD rfl rfl rfl rfl rfl rfl (by decide)) rfl rfl rfl ?_
            | refine LOps.val (LVal.field hD rfl rfl rfl rfl rfl rfl rfl) rfl rfl rfl ?_
            | refine LOps.val (LVal.buildSlice1 hD rfl rfl rfl rfl rfl rfl rfl rfl rfl rfl) rfl rfl rfl ?_
            | refine LOps.val (LVal.build hD rfl rfl rfl rfl rfl rfl rfl) rfl rfl rfl ?_
            | refine LOps.val (LVal.buildSlice hD rfl rfl rfl rfl rfl rfl rfl rfl rfl rfl) rfl rfl rfl ?_
            | refine LOps.val (LVal.takeMap hD rfl rfl rfl rfl rfl rfl (by first | assumption | omega) rfl (fun _ _ => rfl)) rfl rfl rfl ?_
            | refine LOps.val (LVal.dropMap hD rfl rfl rfl rfl rfl rfl (by first | assumption | omega) rfl (fun _ _ => rfl)) rfl rfl rfl ?_
            | refine LOps.val (LVal.cutMap hD rfl rfl rfl rfl rfl rfl rfl (by first | assumption | omega) (by first | assumption | omega) rfl (fun _ _ => rfl)) rfl rfl rfl ?_
            | refine LOps.val (LVal.move2 rfl rfl) rfl rfl rfl ?_
            | refine LOps.val (LVal.assign2 rfl rfl) rfl rfl rfl ?_
            | refine LOps.val (LVal.move (.inl rfl)) rfl rfl rfl ?_
            | refine LOps.val (LVal.move (.inr rfl)) rfl rfl rfl ?_
            | refine LOps.out rfl rfl rfl ?_
            | refine LOps.valG (LVal.move1 rfl rfl) rfl rfl rfl ?_
            | refine LOps.valG (LVal.assign1 rfl rfl) rfl rfl rfl ?_
            | refine LOps.valG (LVal.len hD rfl rfl rfl rfl) rfl rfl rfl ?_
            | refine LOps.valG (LVal.lenStr hD rfl rfl rfl rfl) rfl rfl rfl ?_
            | refine LOps.valG (LVal.add64 rfl rfl rfl (by omega)) rfl rfl rfl ?_
            | refine LOps.valG (LVal.sub64 rfl rfl rfl (by omega)) rfl rfl rfl ?_
            | refine LOps.valG (LVal.addU64 rfl rfl rfl (by omega)) rfl rfl rfl ?_
            | refine LOps.valG (LVal.subU64 rfl rfl rfl (by omega)) rfl rfl rfl ?_
            | refine LOps.valG (LVal.mulU64 rfl rfl rfl (by omega)) rfl rfl rfl ?_
            | refine LOps.valG (LVal.remI rfl rfl rfl (by omega)) rfl rfl rfl ?_
            | refine LOps.valG (LVal.quoU64 rfl rfl rfl (by omega)) rfl rfl rfl ?_
            | refine LOps.valG (LVal.quo64 rfl rfl rfl (by omega)) rfl rfl rfl ?_
            | refine LOps.valG (LVal.mul64 rfl rfl rfl (by omega)) rfl rfl rfl ?_
            | refine LOps.valG (LVal.conv64 hD rfl rfl rfl rfl rfl (by omega)) rfl rfl rfl ?_
            | refine LOps.valG (LVal.convU64 hD rfl rfl rfl rfl rfl (by omega)) rfl rfl rfl ?_
            | refine LOps.valG (LVal.neqSame hD rfl rfl rfl) rfl rfl rfl ?_
            | refine LOps.valG (LVal.neqSameB hD rfl rfl rfl rfl rfl) rfl rfl rfl ?_
            | refine LOps.valG (LVal.binOp hD rfl rfl rfl rfl) rfl rfl rfl ?_
            | refine LOps.valG (LVal.unOp rfl rfl rfl) rfl rfl rfl ?_
            | refine LOps.valG (LVal.pick rfl rfl) rfl rfl rfl ?_
            | refine LOps.valG (LVal.extract rfl rfl rfl) rfl rfl rfl ?_
            | refine LOps.valG (LVal.convInt hD rfl rfl rfl rfl rfl) rfl rfl rfl ?_
            | refine LOps.valG (LVal.fieldAddr hD rfl rfl rfl rfl rfl rfl (by decide)) rfl rfl rfl ?_
            | refine LOps.valG (LVal.load hD rfl rfl (by first | assumption | exact box_new _ _ _ | exact box_set _ _ _ | (simp only [box_new, box_set, box_row, box_new_ne, box_set_ne, ne_eq, not_false_eq_true, *]; done) | (simp only [box_new, box_set, box_row, box_new_ne, box_set_ne, ne_eq, not_false_eq_true, *]; rfl)) rfl rfl) rfl rfl rfl ?_
            | refine LOps.valG (LVal.indexMap hD rfl rfl rfl rfl rfl rfl (by first | assumption | omega) rfl) rfl rfl rfl ?_
            | refine LOps.valG (LVal.loadRo hD rfl rfl rfl rfl) rfl rfl rfl ?_
            | refine LOps.valG (LVal.fieldAddrRo hD rfl rfl rfl rfl rfl rfl (by decide)) rfl rfl rfl ?_
            | refine LOps.valG (LVal.field hD rfl rfl rfl rfl rfl rfl rfl) rfl rfl rfl ?_
            | refine LOps.valG (LVal.buildSlice1 hD rfl rfl rfl rfl rfl rfl rfl rfl rfl rfl) rfl rfl rfl ?_
            | refine LOps.valG (LVal.build hD rfl rfl rfl rfl rfl rfl rfl) rfl rfl rfl ?_
            | refine LOps.valG (LVal.buildSlice hD rfl rfl rfl rfl rfl rfl rfl rfl rfl rfl) rfl rfl rfl ?_
            | refine LOps.valG (LVal.takeMap hD rfl rfl rfl rfl rfl rfl (by first | assumption | omega) rfl (fun _ _ => rfl)) rfl rfl rfl ?_
            | refine LOps.valG (LVal.dropMap hD rfl rfl rfl rfl rfl rfl (by first | assumption | omega) rfl (fun _ _ => rfl)) rfl rfl rfl ?_
            | refine LOps.valG (LVal.cutMap hD rfl rfl rfl rfl rfl rfl rfl (by first | assumption | omega) (by first | assumption | omega) rfl (fun _ _ => rfl)) rfl rfl rfl ?_
            | refine LOps.valG (LVal.move2 rfl rfl) rfl rfl rfl ?_
            | refine LOps.valG (LVal.assign2 rfl rfl) rfl rfl rfl ?_
            | refine LOps.valG (LVal.move (.inl rfl)) rfl rfl rfl ?_
            | refine LOps.valG (LVal.move (.inr rfl)) rfl rfl rfl ?_
            | (refine LOps.do0 (LDo.store hD rfl rfl (by first | assumption | exact box_new _ _ _ | exact box_set _ _ _ | (simp only [box_new, box_set, box_row, box_new_ne, box_set_ne, ne_eq, not_false_eq_true, *]; done) | (simp only [box_new, box_set, box_row, box_new_ne, box_set_ne, ne_eq, not_false_eq_true, *]; rfl)) rfl rfl rfl rfl) rfl rfl ?_; rintro _ _ ⟨rfl, rfl⟩))
          refine LWp.cond rfl (fun h => ?_) (fun h => ?_)
          · have hkn : k < n := by have := of_decide_eq_true h; omega
            repeat (first
              | refine LOps.nil ?_
              | refine andThen_normal ?_
              | refine andThen_exit ?_
              | refine andThen_ret ?_
              | refine inBlock_normal ?_
              | refine inBlock_ret ?_
              | refine inBlock_here ?_
              | refine inBlock_out rfl ?_
              | refine LWp.seq ?_
              | refine LWp.region ?_
              | refine LWp.block ?_
              | refine LWp.exit ?_
              | refine LWp.ret ?_
              | refine LWp.skip ?_
              | refine LOps.val (LVal.move1 rfl rfl) rfl rfl rfl ?_
              | refine LOps.val (LVal.assign1 rfl rfl) rfl rfl rfl ?_
              | refine LOps.val (LVal.len hD rfl rfl rfl rfl) rfl rfl rfl ?_
              | refine LOps.val (LVal.lenStr hD rfl rfl rfl rfl) rfl rfl rfl ?_
              | refine LOps.val (LVal.add64 rfl rfl rfl (by omega)) rfl rfl rfl ?_
              | refine LOps.val (LVal.sub64 rfl rfl rfl (by omega)) rfl rfl rfl ?_
              | refine LOps.val (LVal.addU64 rfl rfl rfl (by omega)) rfl rfl rfl ?_
              | refine LOps.val (LVal.subU64 rfl rfl rfl (by omega)) rfl rfl rfl ?_
              | refine LOps.val (LVal.mulU64 rfl rfl rfl (by omega)) rfl rfl rfl ?_
              | refine LOps.val (LVal.remI rfl rfl rfl (by omega)) rfl rfl rfl ?_
              | refine LOps.val (LVal.quoU64 rfl rfl rfl (by omega)) rfl rfl rfl ?_
              | refine LOps.val (LVal.quo64 rfl rfl rfl (by omega)) rfl rfl rfl ?_
              | refine LOps.val (LVal.mul64 rfl rfl rfl (by omega)) rfl rfl rfl ?_
              | refine LOps.val (LVal.conv64 hD rfl rfl rfl rfl rfl (by omega)) rfl rfl rfl ?_
              | refine LOps.val (LVal.convU64 hD rfl rfl rfl rfl rfl (by omega)) rfl rfl rfl ?_
              | refine LOps.val (LVal.neqSame hD rfl rfl rfl) rfl rfl rfl ?_
              | refine LOps.val (LVal.neqSameB hD rfl rfl rfl rfl rfl) rfl rfl rfl ?_
              | refine LOps.val (LVal.binOp hD rfl rfl rfl rfl) rfl rfl rfl ?_
              | refine LOps.val (LVal.unOp rfl rfl rfl) rfl rfl rfl ?_
              | refine LOps.val (LVal.pick rfl rfl) rfl rfl rfl ?_
              | refine LOps.val (LVal.extract rfl rfl rfl) rfl rfl rfl ?_
              | refine LOps.val (LVal.convInt hD rfl rfl rfl rfl rfl) rfl rfl rfl ?_
              | refine LOps.val (LVal.fieldAddr hD rfl rfl rfl rfl rfl rfl (by decide)) rfl rfl rfl ?_
              | refine LOps.val (LVal.load hD rfl rfl (by first | assumption | exact box_new _ _ _ | exact box_set _ _ _ | (simp only [box_new, box_set, box_row, box_new_ne, box_set_ne, ne_eq, not_false_eq_true, *]; done) | (simp only [box_new, box_set, box_row, box_new_ne, box_set_ne, ne_eq, not_false_eq_true, *]; rfl)) rfl rfl) rfl rfl rfl ?_
              | refine LOps.val (LVal.indexMap hD rfl rfl rfl rfl rfl rfl (by first | assumption | omega) rfl) rfl rfl rfl ?_
              | refine LOps.val (LVal.loadRo hD rfl rfl rfl rfl) rfl rfl rfl ?_
              | refine LOps.val (LVal.fieldAddrRo hD rfl rfl rfl rfl rfl rfl (by decide)) rfl rfl rfl ?_
              | refine LOps.val (LVal.field hD rfl rfl rfl rfl rfl rfl rfl) rfl rfl rfl ?_
              | refine LOps.val (LVal.buildSlice1 hD rfl rfl rfl rfl rfl rfl rfl rfl rfl rfl) rfl rfl rfl ?_
              | refine LOps.val (LVal.build hD rfl rfl rfl rfl rfl rfl rfl) rfl rfl rfl ?_
              | refine LOps.val (LVal.buildSlice hD rfl rfl rfl rfl rfl rfl rfl rfl rfl rfl) rfl rfl rfl ?_
              | refine LOps.val (LVal.takeMap hD rfl rfl rfl rfl rfl rfl (by first | assumption | omega) rfl (fun _ _ => rfl)) rfl rfl rfl ?_
              | refine LOps.val (LVal.dropMap hD rfl rfl rfl rfl rfl rfl (by first | assumption | omega) rfl (fun _ _ => rfl)) rfl rfl rfl ?_
              | refine LOps.val (LVal.cutMap hD rfl rfl rfl rfl rfl rfl rfl (by first | assumption | omega) (by first | assumption | omega) rfl (fun _ _ => rfl)) rfl rfl rfl ?_
              | refine LOps.val (LVal.move2 rfl rfl) rfl rfl rfl ?_
              | refine LOps.val (LVal.assign2 rfl rfl) rfl rfl rfl ?_
              | refine LOps.val (LVal.move (.inl rfl)) rfl rfl rfl ?_
              | refine LOps.val (LVal.move (.inr rfl)) rfl rfl rfl ?_
              | refine LOps.out rfl rfl rfl ?_
              | refine LOps.valG (LVal.move1 rfl rfl) rfl rfl rfl ?_
              | refine LOps.valG (LVal.assign1 rfl rfl) rfl rfl rfl ?_
              | refine LOps.valG (LVal.len hD rfl rfl rfl rfl) rfl rfl rfl ?_
              | refine LOps.valG (LVal.lenStr hD rfl rfl rfl rfl) rfl rfl rfl ?_
              | refine LOps.valG (LVal.add64 rfl rfl rfl (by omega)) rfl rfl rfl ?_
              | refine LOps.valG (LVal.sub64 rfl rfl rfl (by omega)) rfl rfl rfl ?_
              | refine LOps.valG (LVal.addU64 rfl rfl rfl (by omega)) rfl rfl rfl ?_
              | refine LOps.valG (LVal.subU64 rfl rfl rfl (by omega)) rfl rfl rfl ?_
              | refine LOps.valG (LVal.mulU64 rfl rfl rfl (by omega)) rfl rfl rfl ?_
              | refine LOps.valG (LVal.remI rfl rfl rfl (by omega)) rfl rfl rfl ?_
              | refine LOps.valG (LVal.quoU64 rfl rfl rfl (by omega)) rfl rfl rfl ?_
              | refine LOps.valG (LVal.quo64 rfl rfl rfl (by omega)) rfl rfl rfl ?_
              | refine LOps.valG (LVal.mul64 rfl rfl rfl (by omega)) rfl rfl rfl ?_
              | refine LOps.valG (LVal.conv64 hD rfl rfl rfl rfl rfl (by omega)) rfl rfl rfl ?_
              | refine LOps.valG (LVal.convU64 hD rfl rfl rfl rfl rfl (by omega)) rfl rfl rfl ?_
              | refine LOps.valG (LVal.neqSame hD rfl rfl rfl) rfl rfl rfl ?_
              | refine LOps.valG (LVal.neqSameB hD rfl rfl rfl rfl rfl) rfl rfl rfl ?_
              | refine LOps.valG (LVal.binOp hD rfl rfl rfl rfl) rfl rfl rfl ?_
              | refine LOps.valG (LVal.unOp rfl rfl rfl) rfl rfl rfl ?_
              | refine LOps.valG (LVal.pick rfl rfl) rfl rfl rfl ?_
              | refine LOps.valG (LVal.extract rfl rfl rfl) rfl rfl rfl ?_
              | refine LOps.valG (LVal.convInt hD rfl rfl rfl rfl rfl) rfl rfl rfl ?_
              | refine LOps.valG (LVal.fieldAddr hD rfl rfl rfl rfl rfl rfl (by decide)) rfl rfl rfl ?_
              | refine LOps.valG (LVal.load hD rfl rfl (by first | assumption | exact box_new _ _ _ | exact box_set _ _ _ | (simp only [box_new, box_set, box_row, box_new_ne, box_set_ne, ne_eq, not_false_eq_true, *]; done) | (simp only [box_new, box_set, box_row, box_new_ne, box_set_ne, ne_eq, not_false_eq_true, *]; rfl)) rfl rfl) rfl rfl rfl ?_
              | refine LOps.valG (LVal.indexMap hD rfl rfl rfl rfl rfl rfl (by first | assumption | omega) rfl) rfl rfl rfl ?_
              | refine LOps.valG (LVal.loadRo hD rfl rfl rfl rfl) rfl rfl rfl ?_
              | refine LOps.valG (LVal.fieldAddrRo hD rfl rfl rfl rfl rfl rfl (by decide)) rfl rfl rfl ?_
              | refine LOps.valG (LVal.field hD rfl rfl rfl rfl rfl rfl rfl) rfl rfl rfl ?_
              | refine LOps.valG (LVal.buildSlice1 hD rfl rfl rfl rfl rfl rfl rfl rfl rfl rfl) rfl rfl rfl ?_
              | refine LOps.valG (LVal.build hD rfl rfl rfl rfl rfl rfl rfl) rfl rfl rfl ?_
              | refine LOps.valG (LVal.buildSlice hD rfl rfl rfl rfl rfl rfl rfl rfl rfl rfl) rfl rfl rfl ?_
              | refine LOps.valG (LVal.takeMap hD rfl rfl rfl rfl rfl rfl (by first | assumption | omega) rfl (fun _ _ => rfl)) rfl rfl rfl ?_
              | refine LOps.valG (LVal.dropMap hD rfl rfl rfl rfl rfl rfl (by first | assumption | omega) rfl (fun _ _ => rfl)) rfl rfl rfl ?_
              | refine LOps.valG (LVal.cutMap hD rfl rfl rfl rfl rfl rfl rfl (by first | assumption | omega) (by first | assumption | omega) rfl (fun _ _ => rfl)) rfl rfl rfl ?_
              | refine LOps.valG (LVal.move2 rfl rfl) rfl rfl rfl ?_
              | refine LOps.valG (LVal.assign2 rfl rfl) rfl rfl rfl ?_
              | refine LOps.valG (LVal.move (.inl rfl)) rfl rfl rfl ?_
              | refine LOps.valG (LVal.move (.inr rfl)) rfl rfl rfl ?_
              | (refine LOps.do0 (LDo.store hD rfl rfl (by first | assumption | exact box_new _ _ _ | exact box_set _ _ _ | (simp only [box_new, box_set, box_row, box_new_ne, box_set_ne, ne_eq, not_false_eq_true, *]; done) | (simp only [box_new, box_set, box_row, box_new_ne, box_set_ne, ne_eq, not_false_eq_true, *]; rfl)) rfl rfl rfl rfl) rfl rfl ?_; rintro _ _ ⟨rfl, rfl⟩))
            have E1 : (L.take (k + 1)).take n = (L.take k).take n ++ [q / 16 % 16] := by
              have e1 : (L.take (k + 1)).take n = L.take (k + 1) := List.take_of_length_le (by simp; omega)
              have e2 : (L.take k).take n = L.take k := List.take_of_length_le (by simp; omega)
              rw [e1, e2, htk]
            have E2 : (L.take (k + 1)).drop n = (L.take k).drop n := by rw [List.drop_eq_nil_of_le (by simp; omega), List.drop_eq_nil_of_le (by simp; omega)]
            have hl1 : ((L.take k).take n).length = k := by simp; omega
            refine LOps.do (LDo.append1 hD rfl rfl rfl rfl rfl rfl rfl rfl rfl (by rw [List.length_map]) ho1 (by simp only [hl1]; show (k + 1) * 8 ≤ _; omega) (by omega)) rfl rfl rfl ?_
            rintro _ S1 ⟨o', rfl, hown, hup, hnew⟩
            have hb2' := hup.box _ _ hb2
            have hb1' := hup.box _ _ hb1
            repeat (first
              | refine LOps.nil ?_
              | refine andThen_normal ?_
              | refine andThen_exit ?_
              | refine andThen_ret ?_
              | refine inBlock_normal ?_
              | refine inBlock_ret ?_
              | refine inBlock_here ?_
              | refine inBlock_out rfl ?_
              | refine LWp.seq ?_
              | refine LWp.region ?_
              | refine LWp.block ?_
              | refine LWp.exit ?_
              | refine LWp.ret ?_
              | refine LWp.skip ?_
              | refine LOps.val (LVal.move1 rfl rfl) rfl rfl rfl ?_
              | refine LOps.val (LVal.assign1 rfl rfl) rfl rfl rfl ?_
              | refine LOps.val (LVal.len hD rfl rfl rfl rfl) rfl rfl rfl ?_
              | refine LOps.val (LVal.lenStr hD rfl rfl rfl rfl) rfl rfl rfl ?_
              | refine LOps.val (LVal.add64 rfl rfl rfl (by omega)) rfl rfl rfl ?_
              | refine LOps.val (LVal.sub64 rfl rfl rfl (by omega)) rfl rfl rfl ?_
              | refine LOps.val (LVal.addU64 rfl rfl rfl (by omega)) rfl rfl rfl ?_
              | refine LOps.val (LVal.subU64 rfl rfl rfl (by omega)) rfl rfl rfl ?_
              | refine LOps.val (LVal.mulU64 rfl rfl rfl (by omega)) rfl rfl rfl ?_
              | refine LOps.val (LVal.remI rfl rfl rfl (by omega)) rfl rfl rfl ?_
              | refine LOps.val (LVal.quoU64 rfl rfl rfl (by omega)) rfl rfl rfl ?_
              | refine LOps.val (LVal.quo64 rfl rfl rfl (by omega)) rfl rfl rfl ?_
              | refine LOps.val (LVal.mul64 rfl rfl rfl (by omega)) rfl rfl rfl ?_
              | refine LOps.val (LVal.conv64 hD rfl rfl rfl rfl rfl (by omega)) rfl rfl rfl ?_
              | refine LOps.val (LVal.convU64 hD rfl rfl rfl rfl rfl (by omega)) rfl rfl rfl ?_
              | refine LOps.val (LVal.neqSame hD rfl rfl rfl) rfl rfl rfl ?_
              | refine LOps.val (LVal.neqSameB hD rfl rfl rfl rfl rfl) rfl rfl rfl ?_
              | refine LOps.val (LVal.binOp hD rfl rfl rfl rfl) rfl rfl rfl ?_
              | refine LOps.val (LVal.unOp rfl rfl rfl) rfl rfl rfl ?_
              | refine LOps.val (LVal.pick rfl rfl) rfl rfl rfl ?_
              | refine LOps.val (LVal.extract rfl rfl rfl) rfl rfl rfl ?_
              | refine LOps.val (LVal.convInt hD rfl rfl rfl rfl rfl) rfl rfl rfl ?_
              | refine LOps.val (LVal.fieldAddr hD rfl rfl rfl rfl rfl rfl (by decide)) rfl rfl rfl ?_
              | refine LOps.val (LVal.load hD rfl rfl (by first | assumption | exact box_new _ _ _ | exact box_set _ _ _ | (simp only [box_new, box_set, box_row, box_new_ne, box_set_ne, ne_eq, not_false_eq_true, *]; done) | (simp only [box_new, box_set, box_row, box_new_ne, box_set_ne, ne_eq, not_false_eq_true, *]; rfl)) rfl rfl) rfl rfl rfl ?_
              | refine LOps.val (LVal.indexMap hD rfl rfl rfl rfl rfl rfl (by first | assumption | omega) rfl) rfl rfl rfl ?_
              | refine LOps.val (LVal.loadRo hD rfl rfl rfl rfl) rfl rfl rfl ?_
              | refine LOps.val (LVal.fieldAddrRo hD rfl rfl rfl rfl rfl rfl (by decide)) rfl rfl rfl ?_
              | refine LOps.val (LVal.field hD rfl rfl rfl rfl rfl rfl rfl) rfl rfl rfl ?_
              | refine LOps.val (LVal.buildSlice1 hD rfl rfl rfl rfl rfl rfl rfl rfl rfl rfl) rfl rfl rfl ?_
              | refine LOps.val (LVal.build hD rfl rfl rfl rfl rfl rfl rfl) rfl rfl rfl ?_
              | refine LOps.val (LVal.buildSlice hD rfl rfl rfl rfl rfl rfl rfl rfl rfl rfl) rfl rfl rfl ?_
              | refine LOps.val (LVal.takeMap hD rfl rfl rfl rfl rfl rfl (by first | assumption | omega) rfl (fun _ _ => rfl)) rfl rfl rfl ?_
              | refine LOps.val (LVal.dropMap hD rfl rfl rfl rfl rfl rfl (by first | assumption | omega) rfl (fun _ _ => rfl)) rfl rfl rfl ?_
              | refine LOps.val (LVal.cutMap hD rfl rfl rfl rfl rfl rfl rfl (by first | assumption | omega) (by first | assumption | omega) rfl (fun _ _ => rfl)) rfl rfl rfl ?_
              | refine LOps.val (LVal.move2 rfl rfl) rfl rfl rfl ?_
              | refine LOps.val (LVal.assign2 rfl rfl) rfl rfl rfl ?_
              | refine LOps.val (LVal.move (.inl rfl)) rfl rfl rfl ?_
              | refine LOps.val (LVal.move (.inr rfl)) rfl rfl rfl ?_
              | refine LOps.out rfl rfl rfl ?_
              | refine LOps.valG (LVal.move1 rfl rfl) rfl rfl rfl ?_
              | refine LOps.valG (LVal.assign1 rfl rfl) rfl rfl rfl ?_
              | refine LOps.valG (LVal.len hD rfl rfl rfl rfl) rfl rfl rfl ?_
              | refine LOps.valG (LVal.lenStr hD rfl rfl rfl rfl) rfl rfl rfl ?_
              | refine LOps.valG (LVal.add64 rfl rfl rfl (by omega)) rfl rfl rfl ?_
              | refine LOps.valG (LVal.sub64 rfl rfl rfl (by omega)) rfl rfl rfl ?_
              | refine LOps.valG (LVal.addU64 rfl rfl rfl (by omega)) rfl rfl rfl ?_
              | refine LOps.valG (LVal.subU64 rfl rfl rfl (by omega)) rfl rfl rfl ?_
              | refine LOps.valG (LVal.mulU64 rfl rfl rfl (by omega)) rfl rfl rfl ?_
              | refine LOps.valG (LVal.remI rfl rfl rfl (by omega)) rfl rfl rfl ?_
              | refine LOps.valG (LVal.quoU64 rfl rfl rfl (by omega)) rfl rfl rfl ?_
              | refine LOps.valG (LVal.quo64 rfl rfl rfl (by omega)) rfl rfl rfl ?_
              | refine LOps.valG (LVal.mul64 rfl rfl rfl (by omega)) rfl rfl rfl ?_
              | refine LOps.valG (LVal.conv64 hD rfl rfl rfl rfl rfl (by omega)) rfl rfl rfl ?_
              | refine LOps.valG (LVal.convU64 hD rfl rfl rfl rfl rfl (by omega)) rfl rfl rfl ?_
              | refine LOps.valG (LVal.neqSame hD rfl rfl rfl) rfl rfl rfl ?_
              | refine LOps.valG (LVal.neqSameB hD rfl rfl rfl rfl rfl) rfl rfl rfl ?_
              | refine LOps.valG (LVal.binOp hD rfl rfl rfl rfl) rfl rfl rfl ?_
              | refine LOps.valG (LVal.unOp rfl rfl rfl) rfl rfl rfl ?_
              | refine LOps.valG (LVal.pick rfl rfl) rfl rfl rfl ?_
              | refine LOps.valG (LVal.extract rfl rfl rfl) rfl rfl rfl ?_
              | refine LOps.valG (LVal.convInt hD rfl rfl rfl rfl rfl) rfl rfl rfl ?_
              | refine LOps.valG (LVal.fieldAddr hD rfl rfl rfl rfl rfl rfl (by decide)) rfl rfl rfl ?_
              | refine LOps.valG (LVal.load hD rfl rfl (by first | assumption | exact box_new _ _ _ | exact box_set _ _ _ | (simp only [box_new, box_set, box_row, box_new_ne, box_set_ne, ne_eq, not_false_eq_true, *]; done) | (simp only [box_new, box_set, box_row, box_new_ne, box_set_ne, ne_eq, not_false_eq_true, *]; rfl)) rfl rfl) rfl rfl rfl ?_
              | refine LOps.valG (LVal.indexMap hD rfl rfl rfl rfl rfl rfl (by first | assumption | omega) rfl) rfl rfl rfl ?_
              | refine LOps.valG (LVal.loadRo hD rfl rfl rfl rfl) rfl rfl rfl ?_
              | refine LOps.valG (LVal.fieldAddrRo hD rfl rfl rfl rfl rfl rfl (by decide)) rfl rfl rfl ?_
              | refine LOps.valG (LVal.field hD rfl rfl rfl rfl rfl rfl rfl) rfl rfl rfl ?_
              | refine LOps.valG (LVal.buildSlice1 hD rfl rfl rfl rfl rfl rfl rfl rfl rfl rfl) rfl rfl rfl ?_
              | refine LOps.valG (LVal.build hD rfl rfl rfl rfl rfl rfl rfl) rfl rfl rfl ?_
              | refine LOps.valG (LVal.buildSlice hD rfl rfl rfl rfl rfl rfl rfl rfl rfl rfl) rfl rfl rfl ?_
              | refine LOps.valG (LVal.takeMap hD rfl rfl rfl rfl rfl rfl (by first | assumption | omega) rfl (fun _ _ => rfl)) rfl rfl rfl ?_
              | refine LOps.valG (LVal.dropMap hD rfl rfl rfl rfl rfl rfl (by first | assumption | omega) rfl (fun _ _ => rfl)) rfl rfl rfl ?_
              | refine LOps.valG (LVal.cutMap hD rfl rfl rfl rfl rfl rfl rfl (by first | assumption | omega) (by first | assumption | omega) rfl (fun _ _ => rfl)) rfl rfl rfl ?_
              | refine LOps.valG (LVal.move2 rfl rfl) rfl rfl rfl ?_
              | refine LOps.valG (LVal.assign2 rfl rfl) rfl rfl rfl ?_
              | refine LOps.valG (LVal.move (.inl rfl)) rfl rfl rfl ?_
              | refine LOps.valG (LVal.move (.inr rfl)) rfl rfl rfl ?_
              | (refine LOps.do0 (LDo.store hD rfl rfl (by first | assumption | exact box_new _ _ _ | exact box_set _ _ _ | (simp only [box_new, box_set, box_row, box_new_ne, box_set_ne, ne_eq, not_false_eq_true, *]; done) | (simp only [box_new, box_set, box_row, box_new_ne, box_set_ne, ne_eq, not_false_eq_true, *]; rfl)) rfl rfl rfl rfl) rfl rfl ?_; rintro _ _ ⟨rfl, rfl⟩))
            refine ⟨15 - (k + 1), by omega, _, k + 1, o', of_, by omega, rfl, hnd', hbd', (hle.upto hup hx1).setBox hbw0 _, ?_, ?_, ?_, ?_, hx1.next hle hnew, hx2, own_apart ho2 hnew hdis, holds.over ⟨?_, rfl, rfl, rfl, rfl, trivial⟩⟩
            · rw [box_set_ne _ _ hne]; exact hb1'
            · rw [box_set, E1, E2, iList_snoc]; rfl
            · rw [E1, List.length_append]; exact hown.setBox
            · rw [E2]; exact (ho2.upto hup hdis).setBox
            · rw [hq2]; rfl
          · have hkn : n ≤ k := by have := of_decide_eq_false h; omega
            repeat (first
              | refine LOps.nil ?_
              | refine andThen_normal ?_
              | refine andThen_exit ?_
              | refine andThen_ret ?_
              | refine inBlock_normal ?_
              | refine inBlock_ret ?_
              | refine inBlock_here ?_
              | refine inBlock_out rfl ?_
              | refine LWp.seq ?_
              | refine LWp.region ?_
              | refine LWp.block ?_
              | refine LWp.exit ?_
              | refine LWp.ret ?_
              | refine LWp.skip ?_
              | refine LOps.val (LVal.move1 rfl rfl) rfl rfl rfl ?_
              | refine LOps.val (LVal.assign1 rfl rfl) rfl rfl rfl ?_
              | refine LOps.val (LVal.len hD rfl rfl rfl rfl) rfl rfl rfl ?_
              | refine LOps.val (LVal.lenStr hD rfl rfl rfl rfl) rfl rfl rfl ?_
              | refine LOps.val (LVal.add64 rfl rfl rfl (by omega)) rfl rfl rfl ?_
              | refine LOps.val (LVal.sub64 rfl rfl rfl (by omega)) rfl rfl rfl ?_
              | refine LOps.val (LVal.addU64 rfl rfl rfl (by omega)) rfl rfl rfl ?_
              | refine LOps.val (LVal.subU64 rfl rfl rfl (by omega)) rfl rfl rfl ?_
              | refine LOps.val (LVal.mulU64 rfl rfl rfl (by omega)) rfl rfl rfl ?_
              | refine LOps.val (LVal.remI rfl rfl rfl (by omega)) rfl rfl rfl ?_
              | refine LOps.val (LVal.quoU64 rfl rfl rfl (by omega)) rfl rfl rfl ?_
              | refine LOps.val (LVal.quo64 rfl rfl rfl (by omega)) rfl rfl rfl ?_
              | refine LOps.val (LVal.mul64 rfl rfl rfl (by omega)) rfl rfl rfl ?_
              | refine LOps.val (LVal.conv64 hD rfl rfl rfl rfl rfl (by omega)) rfl rfl rfl ?_
              | refine LOps.val (LVal.convU64 hD rfl rfl rfl rfl rfl (by omega)) rfl rfl rfl ?_
              | refine LOps.val (LVal.neqSame hD rfl rfl rfl) rfl rfl rfl ?_
              | refine LOps.val (LVal.neqSameB hD rfl rfl rfl rfl rfl) rfl rfl rfl ?_
              | refine LOps.val (LVal.binOp hD rfl rfl rfl rfl) rfl rfl rfl ?_
              | refine LOps.val (LVal.unOp rfl rfl rfl) rfl rfl rfl ?_
              | refine LOps.val (LVal.pick rfl rfl) rfl rfl rfl ?_
              | refine LOps.val (LVal.extract rfl rfl rfl) rfl rfl rfl ?_
              | refine LOps.val (LVal.convInt hD rfl rfl rfl rfl rfl) rfl rfl rfl ?_
              | refine LOps.val (LVal.fieldAddr hD rfl rfl rfl rfl rfl rfl (by decide)) rfl rfl rfl ?_
              | refine LOps.val (LVal.load hD rfl rfl (by first | assumption | exact box_new _ _ _ | exact box_set _ _ _ | (simp only [box_new, box_set, box_row, box_new_ne, box_set_ne, ne_eq, not_false_eq_true, *]; done) | (simp only [box_new, box_set, box_row, box_new_ne, box_set_ne, ne_eq, not_false_eq_true, *]; rfl)) rfl rfl) rfl rfl rfl ?_
              | refine LOps.val (LVal.indexMap hD rfl rfl rfl rfl rfl rfl (by first | assumption | omega) rfl) rfl rfl rfl ?_
              | refine LOps.val (LVal.loadRo hD rfl rfl rfl rfl) rfl rfl rfl ?_
              | refine LOps.val (LVal.fieldAddrRo hD rfl rfl rfl rfl rfl rfl (by decide)) rfl rfl rfl ?_
              | refine LOps.val (LVal.field hD rfl rfl rfl rfl rfl rfl rfl) rfl rfl rfl ?_
              | refine LOps.val (LVal.buildSlice1 hD rfl rfl rfl rfl rfl rfl rfl rfl rfl rfl) rfl rfl rfl ?_
              | refine LOps.val (LVal.build hD rfl rfl rfl rfl rfl rfl rfl) rfl rfl rfl ?_
              | refine LOps.val (LVal.buildSlice hD rfl rfl rfl rfl rfl rfl rfl rfl rfl rfl) rfl rfl rfl ?_
              | refine LOps.val (LVal.takeMap hD rfl rfl rfl rfl rfl rfl (by first | assumption | omega) rfl (fun _ _ => rfl)) rfl rfl rfl ?_
              | refine LOps.val (LVal.dropMap hD rfl rfl rfl rfl rfl rfl (by first | assumption | omega) rfl (fun _ _ => rfl)) rfl rfl rfl ?_
              | refine LOps.val (LVal.cutMap hD rfl rfl rfl rfl rfl rfl rfl (by first | assumption | omega) (by first | assumption | omega) rfl (fun _ _ => rfl)) rfl rfl rfl ?_
              | refine LOps.val (LVal.move2 rfl rfl) rfl rfl rfl ?_
              | refine LOps.val (LVal.assign2 rfl rfl) rfl rfl rfl ?_
              | refine LOps.val (LVal.move (.inl rfl)) rfl rfl rfl ?_
              | refine LOps.val (LVal.move (.inr rfl)) rfl rfl rfl ?_
              | refine LOps.out rfl rfl rfl ?_
              | refine LOps.valG (LVal.move1 rfl rfl) rfl rfl rfl ?_
              | refine LOps.valG (LVal.assign1 rfl rfl) rfl rfl rfl ?_
              | refine LOps.valG (LVal.len hD rfl rfl rfl rfl) rfl rfl rfl ?_
              | refine LOps.valG (LVal.lenStr hD rfl rfl rfl rfl) rfl rfl rfl ?_
              | refine LOps.valG (LVal.add64 rfl rfl rfl (by omega)) rfl rfl rfl ?_
              | refine LOps.valG (LVal.sub64 rfl rfl rfl (by omega)) rfl rfl rfl ?_
              | refine LOps.valG (LVal.addU64 rfl rfl rfl (by omega)) rfl rfl rfl ?_
              | refine LOps.valG (LVal.subU64 rfl rfl rfl (by omega)) rfl rfl rfl ?_
              | refine LOps.valG (LVal.mulU64 rfl rfl rfl (by omega)) rfl rfl rfl ?_
              | refine LOps.valG (LVal.remI rfl rfl rfl (by omega)) rfl rfl rfl ?_
              | refine LOps.valG (LVal.quoU64 rfl rfl rfl (by omega)) rfl rfl rfl ?_
              | refine LOps.valG (LVal.quo64 rfl rfl rfl (by omega)) rfl rfl rfl ?_
              | refine LOps.valG (LVal.mul64 rfl rfl rfl (by omega)) rfl rfl rfl ?_
              | refine LOps.valG (LVal.conv64 hD rfl rfl rfl rfl rfl (by omega)) rfl rfl rfl ?_
              | refine LOps.valG (LVal.convU64 hD rfl rfl rfl rfl rfl (by omega)) rfl rfl rfl ?_
              | refine LOps.valG (LVal.neqSame hD rfl rfl rfl) rfl rfl rfl ?_
              | refine LOps.valG (LVal.neqSameB hD rfl rfl rfl rfl rfl) rfl rfl rfl ?_
              | refine LOps.valG (LVal.binOp hD rfl rfl rfl rfl) rfl rfl rfl ?_
              | refine LOps.valG (LVal.unOp rfl rfl rfl) rfl rfl rfl ?_
              | refine LOps.valG (LVal.pick rfl rfl) rfl rfl rfl ?_
              | refine LOps.valG (LVal.extract rfl rfl rfl) rfl rfl rfl ?_
              | refine LOps.valG (LVal.convInt hD rfl rfl rfl rfl rfl) rfl rfl rfl ?_
              | refine LOps.valG (LVal.fieldAddr hD rfl rfl rfl rfl rfl rfl (by decide)) rfl rfl rfl ?_
              | refine LOps.valG (LVal.load hD rfl rfl (by first | assumption | exact box_new _ _ _ | exact box_set _ _ _ | (simp only [box_new, box_set, box_row, box_new_ne, box_set_ne, ne_eq, not_false_eq_true, *]; done) | (simp only [box_new, box_set, box_row, box_new_ne, box_set_ne, ne_eq, not_false_eq_true, *]; rfl)) rfl rfl) rfl rfl rfl ?_
              | refine LOps.valG (LVal.indexMap hD rfl rfl rfl rfl rfl rfl (by first | assumption | omega) rfl) rfl rfl rfl ?_
              | refine LOps.valG (LVal.loadRo hD rfl rfl rfl rfl) rfl rfl rfl ?_
              | refine LOps.valG (LVal.fieldAddrRo hD rfl rfl rfl rfl rfl rfl (by decide)) rfl rfl rfl ?_
              | refine LOps.valG (LVal.field hD rfl rfl rfl rfl rfl rfl rfl) rfl rfl rfl ?_
              | refine LOps.valG (LVal.buildSlice1 hD rfl rfl rfl rfl rfl rfl rfl rfl rfl rfl) rfl rfl rfl ?_
              | refine LOps.valG (LVal.build hD rfl rfl rfl rfl rfl rfl rfl) rfl rfl rfl ?_
              | refine LOps.valG (LVal.buildSlice hD rfl rfl rfl rfl rfl rfl rfl rfl rfl rfl) rfl rfl rfl ?_
              | refine LOps.valG (LVal.takeMap hD rfl rfl rfl rfl rfl rfl (by first | assumption | omega) rfl (fun _ _ => rfl)) rfl rfl rfl ?_
              | refine LOps.valG (LVal.dropMap hD rfl rfl rfl rfl rfl rfl (by first | assumption | omega) rfl (fun _ _ => rfl)) rfl rfl rfl ?_
              | refine LOps.valG (LVal.cutMap hD rfl rfl rfl rfl rfl rfl rfl (by first | assumption | omega) (by first | assumption | omega) rfl (fun _ _ => rfl)) rfl rfl rfl ?_
              | refine LOps.valG (LVal.move2 rfl rfl) rfl rfl rfl ?_
              | refine LOps.valG (LVal.assign2 rfl rfl) rfl rfl rfl ?_
              | refine LOps.valG (LVal.move (.inl rfl)) rfl rfl rfl ?_
              | refine LOps.valG (LVal.move (.inr rfl)) rfl rfl rfl ?_
              | (refine LOps.do0 (LDo.store hD rfl rfl (by first | assumption | exact box_new _ _ _ | exact box_set _ _ _ | (simp only [box_new, box_set, box_row, box_new_ne, box_set_ne, ne_eq, not_false_eq_true, *]; done) | (simp only [box_new, box_set, box_row, box_new_ne, box_set_ne, ne_eq, not_false_eq_true, *]; rfl)) rfl rfl rfl rfl) rfl rfl ?_; rintro _ _ ⟨rfl, rfl⟩))
            have E1 : (L.take (k + 1)).take n = (L.take k).take n := by rw [htk, List.take_append_of_le_length (by simp; omega)]
            have E2 : (L.take (k + 1)).drop n = (L.take k).drop n ++ [q / 16 % 16] := by rw [htk, List.drop_append_of_le_length (by simp; omega)]
            have hl2 : ((L.take k).drop n).length = k - n := by simp; omega
            have hdis' : ∀ b, of_ = .own b → ou ≠ .own b := fun b h1 h2 => hdis b h2 h1
            refine LOps.do (LDo.append1 hD rfl rfl rfl rfl rfl rfl rfl rfl rfl (by rw [List.length_map]) ho2 (by simp only [hl2]; show (k - n + 1) * 8 ≤ _; omega) (by omega)) rfl rfl rfl ?_
            rintro _ S1 ⟨o', rfl, hown, hup, hnew⟩
            have hb2' := hup.box _ _ hb2
            have hb1' := hup.box _ _ hb1
            repeat (first
              | refine LOps.nil ?_
              | refine andThen_normal ?_
              | refine andThen_exit ?_
              | refine andThen_ret ?_
              | refine inBlock_normal ?_
              | refine inBlock_ret ?_
              | refine inBlock_here ?_
              | refine inBlock_out rfl ?_
              | refine LWp.seq ?_
              | refine LWp.region ?_
              | refine LWp.block ?_
              | refine LWp.exit ?_
              | refine LWp.ret ?_
              | refine LWp.skip ?_
              | refine LOps.val (LVal.move1 rfl rfl) rfl rfl rfl ?_
              | refine LOps.val (LVal.assign1 rfl rfl) rfl rfl rfl ?_
              | refine LOps.val (LVal.len hD rfl rfl rfl rfl) rfl rfl rfl ?_
              | refine LOps.val (LVal.lenStr hD rfl rfl rfl rfl) rfl rfl rfl ?_
              | refine LOps.val (LVal.add64 rfl rfl rfl (by omega)) rfl rfl rfl ?_
              | refine LOps.val (LVal.sub64 rfl rfl rfl (by omega)) rfl rfl rfl ?_
              | refine LOps.val (LVal.addU64 rfl rfl rfl (by omega)) rfl rfl rfl ?_
              | refine LOps.val (LVal.subU64 rfl rfl rfl (by omega)) rfl rfl rfl ?_
              | refine LOps.val (LVal.mulU64 rfl rfl rfl (by omega)) rfl rfl rfl ?_
              | refine LOps.val (LVal.remI rfl rfl rfl (by omega)) rfl rfl rfl ?_
              | refine LOps.val (LVal.quoU64 rfl rfl rfl (by omega)) rfl rfl rfl ?_
              | refine LOps.val (LVal.quo64 rfl rfl rfl (by omega)) rfl rfl rfl ?_
              | refine LOps.val (LVal.mul64 rfl rfl rfl (by omega)) rfl rfl rfl ?_
              | refine LOps.val (LVal.conv64 hD rfl rfl rfl rfl rfl (by omega)) rfl rfl rfl ?_
              | refine LOps.val (LVal.convU64 hD rfl rfl rfl rfl rfl (by omega)) rfl rfl rfl ?_
              | refine LOps.val (LVal.neqSame hD rfl rfl rfl) rfl rfl rfl ?_
              | refine LOps.val (LVal.neqSameB hD rfl rfl rfl rfl rfl) rfl rfl rfl ?_
              | refine LOps.val (LVal.binOp hD rfl rfl rfl rfl) rfl rfl rfl ?_
              | refine LOps.val (LVal.unOp rfl rfl rfl) rfl rfl rfl ?_
              | refine LOps.val (LVal.pick rfl rfl) rfl rfl rfl ?_
              | refine LOps.val (LVal.extract rfl rfl rfl) rfl rfl rfl ?_
              | refine LOps.val (LVal.convInt hD rfl rfl rfl rfl rfl) rfl rfl rfl ?_
              | refine LOps.val (LVal.fieldAddr hD rfl rfl rfl rfl rfl rfl (by decide)) rfl rfl rfl ?_
              | refine LOps.val (LVal.load hD rfl rfl (by first | assumption | exact box_new _ _ _ | exact box_set _ _ _ | (simp only [box_new, box_set, box_row, box_new_ne, box_set_ne, ne_eq, not_false_eq_true, *]; done) | (simp only [box_new, box_set, box_row, box_new_ne, box_set_ne, ne_eq, not_false_eq_true, *]; rfl)) rfl rfl) rfl rfl rfl ?_
              | refine LOps.val (LVal.indexMap hD rfl rfl rfl rfl rfl rfl (by first | assumption | omega) rfl) rfl rfl rfl ?_
              | refine LOps.val (LVal.loadRo hD rfl rfl rfl rfl) rfl rfl rfl ?_
              | refine LOps.val (LVal.fieldAddrRo hD rfl rfl rfl rfl rfl rfl (by decide)) rfl rfl rfl ?_
              | refine LOps.val (LVal.field hD rfl rfl rfl rfl rfl rfl rfl) rfl rfl rfl ?_
              | refine LOps.val (LVal.buildSlice1 hD rfl rfl rfl rfl rfl rfl rfl rfl rfl rfl) rfl rfl rfl ?_
              | refine LOps.val (LVal.build hD rfl rfl rfl rfl rfl rfl rfl) rfl rfl rfl ?_
              | refine LOps.val (LVal.buildSlice hD rfl rfl rfl rfl rfl rfl rfl rfl rfl rfl) rfl rfl rfl ?_
              | refine LOps.val (LVal.takeMap hD rfl rfl rfl rfl rfl rfl (by first | assumption | omega) rfl (fun _ _ => rfl)) rfl rfl rfl ?_
              | refine LOps.val (LVal.dropMap hD rfl rfl rfl rfl rfl rfl (by first | assumption | omega) rfl (fun _ _ => rfl)) rfl rfl rfl ?_
              | refine LOps.val (LVal.cutMap hD rfl rfl rfl rfl rfl rfl rfl (by first | assumption | omega) (by first | assumption | omega) rfl (fun _ _ => rfl)) rfl rfl rfl ?_
              | refine LOps.val (LVal.move2 rfl rfl) rfl rfl rfl ?_
              | refine LOps.val (LVal.assign2 rfl rfl) rfl rfl rfl ?_
              | refine LOps.val (LVal.move (.inl rfl)) rfl rfl rfl ?_
              | refine LOps.val (LVal.move (.inr rfl)) rfl rfl rfl ?_
              | refine LOps.out rfl rfl rfl ?_
              | refine LOps.valG (LVal.move1 rfl rfl) rfl rfl rfl ?_
              | refine LOps.valG (LVal.assign1 rfl rfl) rfl rfl rfl ?_
              | refine LOps.valG (LVal.len hD rfl rfl rfl rfl) rfl rfl rfl ?_
              | refine LOps.valG (LVal.lenStr hD rfl rfl rfl rfl) rfl rfl rfl ?_
              | refine LOps.valG (LVal.add64 rfl rfl rfl (by omega)) rfl rfl rfl ?_
              | refine LOps.valG (LVal.sub64 rfl rfl rfl (by omega)) rfl rfl rfl ?_
              | refine LOps.valG (LVal.addU64 rfl rfl rfl (by omega)) rfl rfl rfl ?_
              | refine LOps.valG (LVal.subU64 rfl rfl rfl (by omega)) rfl rfl rfl ?_
              | refine LOps.valG (LVal.mulU64 rfl rfl rfl (by omega)) rfl rfl rfl ?_
              | refine LOps.valG (LVal.remI rfl rfl rfl (by omega)) rfl rfl rfl ?_
              | refine LOps.valG (LVal.quoU64 rfl rfl rfl (by omega)) rfl rfl rfl ?_
              | refine LOps.valG (LVal.quo64 rfl rfl rfl (by omega)) rfl rfl rfl ?_
              | refine LOps.valG (LVal.mul64 rfl rfl rfl (by omega)) rfl rfl rfl ?_
              | refine LOps.valG (LVal.conv64 hD rfl rfl rfl rfl rfl (by omega)) rfl rfl rfl ?_
              | refine LOps.valG (LVal.convU64 hD rfl rfl rfl rfl rfl (by omega)) rfl rfl rfl ?_
              | refine LOps.valG (LVal.neqSame hD rfl rfl rfl) rfl rfl rfl ?_
              | refine LOps.valG (LVal.neqSameB hD rfl rfl rfl rfl rfl) rfl rfl rfl ?_
              | refine LOps.valG (LVal.binOp hD rfl rfl rfl rfl) rfl rfl rfl ?_
              | refine LOps.valG (LVal.unOp rfl rfl rfl) rfl rfl rfl ?_
              | refine LOps.valG (LVal.pick rfl rfl) rfl rfl rfl ?_
              | refine LOps.valG (LVal.extract rfl rfl rfl) rfl rfl rfl ?_
              | refine LOps.valG (LVal.convInt hD rfl rfl rfl rfl rfl) rfl rfl rfl ?_
              | refine LOps.valG (LVal.fieldAddr hD rfl rfl rfl rfl rfl rfl (by decide)) rfl rfl rfl ?_
              | refine LOps.valG (LVal.load hD rfl rfl (by first | assumption | exact box_new _ _ _ | exact box_set _ _ _ | (simp only [box_new, box_set, box_row, box_new_ne, box_set_ne, ne_eq, not_false_eq_true, *]; done) | (simp only [box_new, box_set, box_row, box_new_ne, box_set_ne, ne_eq, not_false_eq_true, *]; rfl)) rfl rfl) rfl rfl rfl ?_
              | refine LOps.valG (LVal.indexMap hD rfl rfl rfl rfl rfl rfl (by first | assumption | omega) rfl) rfl rfl rfl ?_
              | refine LOps.valG (LVal.loadRo hD rfl rfl rfl rfl) rfl rfl rfl ?_
              | refine LOps.valG (LVal.fieldAddrRo hD rfl rfl rfl rfl rfl rfl (by decide)) rfl rfl rfl ?_
              | refine LOps.valG (LVal.field hD rfl rfl rfl rfl rfl rfl rfl) rfl rfl rfl ?_
              | refine LOps.valG (LVal.buildSlice1 hD rfl rfl rfl rfl rfl rfl rfl rfl rfl rfl) rfl rfl rfl ?_
              | refine LOps.valG (LVal.build hD rfl rfl rfl rfl rfl rfl rfl) rfl rfl rfl ?_
              | refine LOps.valG (LVal.buildSlice hD rfl rfl rfl rfl rfl rfl rfl rfl rfl rfl) rfl rfl rfl ?_
              | refine LOps.valG (LVal.takeMap hD rfl rfl rfl rfl rfl rfl (by first | assumption | omega) rfl (fun _ _ => rfl)) rfl rfl rfl ?_
              | refine LOps.valG (LVal.dropMap hD rfl rfl rfl rfl rfl rfl (by first | assumption | omega) rfl (fun _ _ => rfl)) rfl rfl rfl ?_
              | refine LOps.valG (LVal.cutMap hD rfl rfl rfl rfl rfl rfl rfl (by first | assumption | omega) (by first | assumption | omega) rfl (fun _ _ => rfl)) rfl rfl rfl ?_
              | refine LOps.valG (LVal.move2 rfl rfl) rfl rfl rfl ?_
              | refine LOps.valG (LVal.assign2 rfl rfl) rfl rfl rfl ?_
              | refine LOps.valG (LVal.move (.inl rfl)) rfl rfl rfl ?_
              | refine LOps.valG (LVal.move (.inr rfl)) rfl rfl rfl ?_
              | (refine LOps.do0 (LDo.store hD rfl rfl (by first | assumption | exact box_new _ _ _ | exact box_set _ _ _ | (simp only [box_new, box_set, box_row, box_new_ne, box_set_ne, ne_eq, not_false_eq_true, *]; done) | (simp only [box_new, box_set, box_row, box_new_ne, box_set_ne, ne_eq, not_false_eq_true, *]; rfl)) rfl rfl rfl rfl) rfl rfl ?_; rintro _ _ ⟨rfl, rfl⟩))
            refine ⟨15 - (k + 1), by omega, _, k + 1, ou, o', by omega, rfl, hnd', hbd', (hle.upto hup hx2).setBox hbw0 _, ?_, ?_, ?_, ?_, hx1, hx2.next hle hnew, fun b h1 h2 => own_apart ho1 hnew hdis' b h2 h1, holds.over ⟨?_, rfl, rfl, rfl, rfl, trivial⟩⟩
            · rw [box_set_ne _ _ hne]; exact hb1'
            · rw [box_set, E1, E2, iList_snoc]; rfl
            · rw [E1]; exact (ho1.upto hup hdis').setBox
            · rw [E2, List.length_append]; exact hown.setBox
            · rw [hq2]; rfl
  · obtain rfl : k = 15 := by have := of_decide_eq_false h; omega
    have hE : L.take 15 = L := List.take_of_length_le (by omega)
    rw [hE] at hnd hbd hb2
    repeat (first
      | refine LOps.nil ?_
      | refine andThen_normal ?_
      | refine andThen_exit ?_
      | refine andThen_ret ?_
      | refine inBlock_normal ?_
      | refine inBlock_ret ?_
      | refine inBlock_here ?_
      | refine inBlock_out rfl ?_
      | refine LWp.seq ?_
      | refine LWp.region ?_
      | refine LWp.block ?_
      | refine LWp.exit ?_
      | refine LWp.ret ?_
      | refine LWp.skip ?_
      | refine LOps.val (LVal.move1 rfl rfl) rfl rfl rfl ?_
      | refine LOps.val (LVal.assign1 rfl rfl) rfl rfl rfl ?_
      | refine LOps.val (LVal.len hD rfl rfl rfl rfl) rfl rfl rfl ?_
      | refine LOps.val (LVal.lenStr hD rfl rfl rfl rfl) rfl rfl rfl ?_
      | refine LOps.val (LVal.add64 rfl rfl rfl (by omega)) rfl rfl rfl ?_
      | refine LOps.val (LVal.sub64 rfl rfl rfl (by omega)) rfl rfl rfl ?_
      | refine LOps.val (LVal.addU64 rfl rfl rfl (by omega)) rfl rfl rfl ?_
      | refine LOps.val (LVal.subU64 rfl rfl rfl (by omega)) rfl rfl rfl ?_
      | refine LOps.val (LVal.mulU64 rfl rfl rfl (by omega)) rfl rfl rfl ?_
      | refine LOps.val (LVal.remI rfl rfl rfl (by omega)) rfl rfl rfl ?_
      | refine LOps.val (LVal.quoU64 rfl rfl rfl (by omega)) rfl rfl rfl ?_
      | refine LOps.val (LVal.quo64 rfl rfl rfl (by omega)) rfl rfl rfl ?_
      | refine LOps.val (LVal.mul64 rfl rfl rfl (by omega)) rfl rfl rfl ?_
      | refine LOps.val (LVal.conv64 hD rfl rfl rfl rfl rfl (by omega)) rfl rfl rfl ?_
      | refine LOps.val (LVal.convU64 hD rfl rfl rfl rfl rfl (by omega)) rfl rfl rfl ?_
      | refine LOps.val (LVal.neqSame hD rfl rfl rfl) rfl rfl rfl ?_
      | refine LOps.val (LVal.neqSameB hD rfl rfl rfl rfl rfl) rfl rfl rfl ?_
      | refine LOps.val (LVal.binOp hD rfl rfl rfl rfl) rfl rfl rfl ?_
      | refine LOps.val (LVal.unOp rfl rfl rfl) rfl rfl rfl ?_
      | refine LOps.val (LVal.pick rfl rfl) rfl rfl rfl ?_
      | refine LOps.val (LVal.extract rfl rfl rfl) rfl rfl rfl ?_
      | refine LOps.val (LVal.convInt hD rfl rfl rfl rfl rfl) rfl rfl rfl ?_
      | refine LOps.val (LVal.fieldAddr hD rfl rfl rfl rfl rfl rfl (by decide)) rfl rfl rfl ?_
      | refine LOps.val (LVal.load hD rfl rfl (by first | assumption | exact box_new _ _ _ | exact box_set _ _ _ | (simp only [box_new, box_set, box_row, box_new_ne, box_set_ne, ne_eq, not_false_eq_true, *]; done) | (simp only [box_new, box_set, box_row, box_new_ne, box_set_ne, ne_eq, not_false_eq_true, *]; rfl)) rfl rfl) rfl rfl rfl ?_
      | refine LOps.val (LVal.indexMap hD rfl rfl rfl rfl rfl rfl (by first | assumption | omega) rfl) rfl rfl rfl ?_
      | refine LOps.val (LVal.loadRo hD rfl rfl rfl rfl) rfl rfl rfl ?_
      | refine LOps.val (LVal.fieldAddrRo hD rfl rfl rfl rfl rfl rfl (by decide)) rfl rfl rfl ?_
      | refine LOps.val (LVal.field hD rfl rfl rfl rfl rfl rfl rfl) rfl rfl rfl ?_
      | refine LOps.val (LVal.buildSlice1 hD rfl rfl rfl rfl rfl rfl rfl rfl rfl rfl) rfl rfl rfl ?_
      | refine LOps.val (LVal.build hD rfl rfl rfl rfl rfl rfl rfl) rfl rfl rfl ?_
      | refine LOps.val (LVal.buildSlice hD rfl rfl rfl rfl rfl rfl rfl rfl rfl rfl) rfl rfl rfl ?_
      | refine LOps.val (LVal.takeMap hD rfl rfl rfl rfl rfl rfl (by first | assumption | omega) rfl (fun _ _ => rfl)) rfl rfl rfl ?_
      | refine LOps.val (LVal.dropMap hD rfl rfl rfl rfl rfl rfl (by first | assumption | omega) rfl (fun _ _ => rfl)) rfl rfl rfl ?_
      | refine LOps.val (LVal.cutMap hD rfl rfl rfl rfl rfl rfl rfl (by first | assumption | omega) (by first | assumption | omega) rfl (fun _ _ => rfl)) rfl rfl rfl ?_
      | refine LOps.val (LVal.move2 rfl rfl) rfl rfl rfl ?_
      | refine LOps.val (LVal.assign2 rfl rfl) rfl rfl rfl ?_
      | refine LOps.val (LVal.move (.inl rfl)) rfl rfl rfl ?_
      | refine LOps.val (LVal.move (.inr rfl)) rfl rfl rfl ?_
      | refine LOps.out rfl rfl rfl ?_
      | refine LOps.valG (LVal.move1 rfl rfl) rfl rfl rfl ?_
      | refine LOps.valG (LVal.assign1 rfl rfl) rfl rfl rfl ?_
      | refine LOps.valG (LVal.len hD rfl rfl rfl rfl) rfl rfl rfl ?_
      | refine LOps.valG (LVal.lenStr hD rfl rfl rfl rfl) rfl rfl rfl ?_
      | refine LOps.valG (LVal.add64 rfl rfl rfl (by omega)) rfl rfl rfl ?_
      | refine LOps.valG (LVal.sub64 rfl rfl rfl (by omega)) rfl rfl rfl ?_
      | refine LOps.valG (LVal.addU64 rfl rfl rfl (by omega)) rfl rfl rfl ?_
      | refine LOps.valG (LVal.subU64 rfl rfl rfl (by omega)) rfl rfl rfl ?_
      | refine LOps.valG (LVal.mulU64 rfl rfl rfl (by omega)) rfl rfl rfl ?_
      | refine LOps.valG (LVal.remI rfl rfl rfl (by omega)) rfl rfl rfl ?_
      | refine LOps.valG (LVal.quoU64 rfl rfl rfl (by omega)) rfl rfl rfl ?_
      | refine LOps.valG (LVal.quo64 rfl rfl rfl (by omega)) rfl rfl rfl ?_
      | refine LOps.valG (LVal.mul64 rfl rfl rfl (by omega)) rfl rfl rfl ?_
      | refine LOps.valG (LVal.conv64 hD rfl rfl rfl rfl rfl (by omega)) rfl rfl rfl ?_
      | refine LOps.valG (LVal.convU64 hD rfl rfl rfl rfl rfl (by omega)) rfl rfl rfl ?_
      | refine LOps.valG (LVal.neqSame hD rfl rfl rfl) rfl rfl rfl ?_
      | refine LOps.valG (LVal.neqSameB hD rfl rfl rfl rfl rfl) rfl rfl rfl ?_
      | refine LOps.valG (LVal.binOp hD rfl rfl rfl rfl) rfl rfl rfl ?_
      | refine LOps.valG (LVal.unOp rfl rfl rfl) rfl rfl rfl ?_
      | refine LOps.valG (LVal.pick rfl rfl) rfl rfl rfl ?_
      | refine LOps.valG (LVal.extract rfl rfl rfl) rfl rfl rfl ?_
      | refine LOps.valG (LVal.convInt hD rfl rfl rfl rfl rfl) rfl rfl rfl ?_
      | refine LOps.valG (LVal.fieldAddr hD rfl rfl rfl rfl rfl rfl (by decide)) rfl rfl rfl ?_
      | refine LOps.valG (LVal.load hD rfl rfl (by first | assumption | exact box_new _ _ _ | exact box_set _ _ _ | (simp only [box_new, box_set, box_row, box_new_ne, box_set_ne, ne_eq, not_false_eq_true, *]; done) | (simp only [box_new, box_set, box_row, box_new_ne, box_set_ne, ne_eq, not_false_eq_true, *]; rfl)) rfl rfl) rfl rfl rfl ?_
      | refine LOps.valG (LVal.indexMap hD rfl rfl rfl rfl rfl rfl (by first | assumption | omega) rfl) rfl rfl rfl ?_
      | refine LOps.valG (LVal.loadRo hD rfl rfl rfl rfl) rfl rfl rfl ?_
      | refine LOps.valG (LVal.fieldAddrRo hD rfl rfl rfl rfl rfl rfl (by decide)) rfl rfl rfl ?_
      | refine LOps.valG (LVal.field hD rfl rfl rfl rfl rfl rfl rfl) rfl rfl rfl ?_
      | refine LOps.valG (LVal.buildSlice1 hD rfl rfl rfl rfl rfl rfl rfl rfl rfl rfl) rfl rfl rfl ?_
      | refine LOps.valG (LVal.build hD rfl rfl rfl rfl rfl rfl rfl) rfl rfl rfl ?_
      | refine LOps.valG (LVal.buildSlice hD rfl rfl rfl rfl rfl rfl rfl rfl rfl rfl) rfl rfl rfl ?_
      | refine LOps.valG (LVal.takeMap hD rfl rfl rfl rfl rfl rfl (by first | assumption | omega) rfl (fun _ _ => rfl)) rfl rfl rfl ?_
      | refine LOps.valG (LVal.dropMap hD rfl rfl rfl rfl rfl rfl (by first | assumption | omega) rfl (fun _ _ => rfl)) rfl rfl rfl ?_
      | refine LOps.valG (LVal.cutMap hD rfl rfl rfl rfl rfl rfl rfl (by first | assumption | omega) (by first | assumption | omega) rfl (fun _ _ => rfl)) rfl rfl rfl ?_
      | refine LOps.valG (LVal.move2 rfl rfl) rfl rfl rfl ?_
      | refine LOps.valG (LVal.assign2 rfl rfl) rfl rfl rfl ?_
      | refine LOps.valG (LVal.move (.inl rfl)) rfl rfl rfl ?_
      | refine LOps.valG (LVal.move (.inr rfl)) rfl rfl rfl ?_
      | (refine LOps.do0 (LDo.store hD rfl rfl (by first | assumption | exact box_new _ _ _ | exact box_set _ _ _ | (simp only [box_new, box_set, box_row, box_new_ne, box_set_ne, ne_eq, not_false_eq_true, *]; done) | (simp only [box_new, box_set, box_row, box_new_ne, box_set_ne, ne_eq, not_false_eq_true, *]; rfl)) rfl rfl rfl rfl) rfl rfl ?_; rintro _ _ ⟨rfl, rfl⟩))
    refine ⟨_, (LRes.many rfl rfl (.cons (.cell rfl (box_set _ _ _) (hP ▸ tok40) rfl) (.cons (.tmp _) .nil))).sh, ?_, hle.setBox hbr.box _⟩
    rw [ofR_yes (by rw [← hL]; exact hrp.2 ⟨hnd, hbd⟩), ← hL, ← hn]
    rfl
end Go.Proofs.Ytffeegpjnibdnaa.LF
