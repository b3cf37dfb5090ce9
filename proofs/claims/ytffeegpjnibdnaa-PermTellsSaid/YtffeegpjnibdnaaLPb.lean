/- The document's words over the frame: Put, Insert, Remove. -/
import Derived.Test.YtffeegpjnibdnaaLPa
import Derived.Test.YtffeegpjnibdnaaPermI
set_option linter.unusedVariables false
set_option linter.unusedSimpArgs false
namespace Go.Proofs.Ytffeegpjnibdnaa.LF
open Go.RowKit

theorem iList_one (xs : List Nat) : ∀ c ∈ iList xs, c.length = 1 := by simp
theorem iList_app (xs ys : List Nat) : iList xs ++ iList ys = iList (xs ++ ys) := by simp
theorem iList_len (xs : List Nat) : (iList xs).length = xs.length := by simp

theorem put_L {G : Ctx} (hP : G.P = Try.prog) (xs ys : List Nat) (hl : xs.length + ys.length = 15) (h16 : ∀ x ∈ xs ++ ys, x < 16) (S : LS) :
    LCalls G 25 [.agg [.sl .sh (iList xs), .sl .sh (iList ys)]] (fun r S' => r = .one (.v (.int .u64 (wd xs.length (xs ++ ys) : Nat))) ∧ S.le S') S := by
  have hD : TabOK G.P D := by rw [hP]; exact hD0
  have hm : G.P.follows .mixedOrders = true := by rw [hP]; rfl
  refine LCalls.enter (fn := Try.f25) (by rw [hP]; exact Try.func25) rfl rfl ?_
  repeat (first
    | refine LOps.nil ?_
    | refine andThen_normal ?_
    | refine andThen_exit ?_
    | refine andThen_ret ?_
    | refine inBlock_normal ?_
    | refine inBlock_ret ?_
    | refine inBlock_here ?_
    | refine inBlock_out rfl ?_
    | refine LWp.seq ?_
    | refine LWp.region ?_
    | refine LWp.block ?_
    | refine LWp.exit ?_
    | refine LWp.ret ?_
    | refine LWp.skip ?_
    | refine LOps.val (LVal.move1 rfl rfl) rfl rfl rfl ?_
    | refine LOps.val (LVal.assign1 rfl rfl) rfl rfl rfl ?_
    | refine LOps.val (LVal.len hD rfl rfl rfl rfl) rfl rfl rfl ?_
    | refine LOps.val (LVal.lenStr hD rfl rfl rfl rfl) rfl rfl rfl ?_
    | refine LOps.val (LVal.add64 rfl rfl rfl (by omega)) rfl rfl rfl ?_
    | refine LOps.val (LVal.sub64 rfl rfl rfl (by omega)) rfl rfl rfl ?_
    | refine LOps.val (LVal.addU64 rfl rfl rfl (by omega)) rfl rfl rfl ?_
    | refine LOps.val (LVal.subU64 rfl rfl rfl (by omega)) rfl rfl rfl ?_
    | refine LOps.val (LVal.mulU64 rfl rfl rfl (by omega)) rfl rfl rfl ?_
    | refine LOps.val (LVal.remI rfl rfl rfl (by omega)) rfl rfl rfl ?_
    | refine LOps.val (LVal.quoU64 rfl rfl rfl (by omega)) rfl rfl rfl ?_
    | refine LOps.val (LVal.quo64 rfl rfl rfl (by omega)) rfl rfl rfl ?_
    | refine LOps.val (LVal.mul64 rfl rfl rfl (by omega)) rfl rfl rfl ?_
    | refine LOps.val (LVal.conv64 hD rfl rfl rfl rfl rfl (by omega)) rfl rfl rfl ?_
    | refine LOps.val (LVal.convU64 hD rfl rfl rfl rfl rfl (by omega)) rfl rfl rfl ?_
    | refine LOps.val (LVal.neqSame hD rfl rfl rfl) rfl rfl rfl ?_
    | refine LOps.val (LVal.neqSameB hD rfl rfl rfl rfl rfl) rfl rfl rfl ?_
    | refine LOps.val (LVal.binOp hD rfl rfl rfl rfl) rfl rfl rfl ?_
    | refine LOps.val (LVal.unOp rfl rfl rfl) rfl rfl rfl ?_
    | refine LOps.val (LVal.pick rfl rfl) rfl rfl rfl ?_
    | refine LOps.val (LVal.extract rfl rfl rfl) rfl rfl rfl ?_
    | refine LOps.val (LVal.convInt hD rfl rfl rfl rfl rfl) rfl rfl rfl ?_
    | refine LOps.val (LVal.fieldAddr hD rfl rfl rfl rfl rfl rfl (by decide)) rfl rfl rfl ?_
    | refine LOps.val (LVal.load hD rfl rfl (by first | assumption | exact box_new _ _ _ | exact box_set _ _ _ | (simp only [box_new, box_set, box_row, box_new_ne, box_set_ne, ne_eq, not_false_eq_true, *]; done) | (simp only [box_new, box_set, box_row, box_new_ne, box_set_ne, ne_eq, not_false_eq_true, *]; rfl)) rfl rfl) rfl rfl rfl ?_
    | refine LOps.val (LVal.indexMap hD rfl rfl rfl rfl rfl rfl (by first | assumption | omega) rfl) rfl rfl rfl ?_
    | refine LOps.val (LVal.loadRo hD rfl rfl rfl rfl) rfl rfl rfl ?_
    | refine LOps.val (LVal.fieldAddrRo hD rfl rfl rfl rfl rfl rfl (by decide)) rfl rfl rfl ?_
    | refine LOps.val (LVal.field hD rfl rfl rfl rfl rfl rfl rfl) rfl rfl rfl ?_
    | refine LOps.val (LVal.buildSlice1 hD rfl rfl rfl rfl rfl rfl rfl rfl rfl rfl) rfl rfl rfl ?_
    | refine LOps.val (LVal.build hD rfl rfl rfl rfl rfl rfl rfl) rfl rfl rfl ?_
    | refine LOps.val (LVal.buildSlice hD rfl rfl rfl rfl rfl rfl rfl rfl rfl rfl) rfl rfl rfl ?_
    | refine LOps.val (LVal.takeMap hD rfl rfl rfl rfl rfl rfl (by first | assumption | omega) rfl (fun _ _ => rfl)) rfl rfl rfl ?_
    | refine LOps.val (LVal.dropMap hD rfl rfl rfl rfl rfl rfl (by first | assumption | omega) rfl (fun _ _ => rfl)) rfl rfl rfl ?_
    | refine LOps.val (LVal.cutMap hD rfl rfl rfl rfl rfl rfl rfl (by first | assumption | omega) (by first | assumption | omega) rfl (fun _ _ => rfl)) rfl rfl rfl ?_
    | refine LOps.val (LVal.move2 rfl rfl) rfl rfl rfl ?_
    | refine LOps.val (LVal.assign2 rfl rfl) rfl rfl rfl ?_
    | refine LOps.val (LVal.move (.inl rfl)) rfl rfl rfl ?_
    | refine LOps.val (LVal.move (.inr rfl)) rfl rfl rfl ?_
    | refine LOps.out rfl rfl rfl ?_
    | refine LOps.valG (LVal.move1 rfl rfl) rfl rfl rfl ?_
    | refine LOps.valG (LVal.assign1 rfl rfl) rfl rfl rfl ?_
    | refine LOps.valG (LVal.len hD rfl rfl rfl rfl) rfl rfl rfl ?_
    | refine LOps.valG (LVal.lenStr hD rfl rfl rfl rfl) rfl rfl rfl ?_
    | refine LOps.valG (LVal.add64 rfl rfl rfl (by omega)) rfl rfl rfl ?_
    | refine LOps.valG (LVal.sub64 rfl rfl rfl (by omega)) rfl rfl rfl ?_
    | refine LOps.valG (LVal.addU64 rfl rfl rfl (by omega)) rfl rfl rfl ?_
    | refine LOps.valG (LVal.subU64 rfl rfl rfl (by omega)) rfl rfl rfl ?_
    | refine LOps.valG (LVal.mulU64 rfl rfl rfl (by omega)) rfl rfl rfl ?_
    | refine LOps.valG (LVal.remI rfl rfl rfl (by omega)) rfl rfl rfl ?_
    | refine LOps.valG (LVal.quoU64 rfl rfl rfl (by omega)) rfl rfl rfl ?_
    | refine LOps.valG (LVal.quo64 rfl rfl rfl (by omega)) rfl rfl rfl ?_
    | refine LOps.valG (LVal.mul64 rfl rfl rfl (by omega)) rfl rfl rfl ?_
    | refine LOps.valG (LVal.conv64 hD rfl rfl rfl rfl rfl (by omega)) rfl rfl rfl ?_
    | refine LOps.valG (LVal.convU64 hD rfl rfl rfl rfl rfl (by omega)) rfl rfl rfl ?_
    | refine LOps.valG (LVal.neqSame hD rfl rfl rfl) rfl rfl rfl ?_
    | refine LOps.valG (LVal.neqSameB hD rfl rfl rfl rfl rfl) rfl rfl rfl ?_
    | refine LOps.valG (LVal.binOp hD rfl rfl rfl rfl) rfl rfl rfl ?_
    | refine LOps.valG (LVal.unOp rfl rfl rfl) rfl rfl rfl ?_
    | refine LOps.valG (LVal.pick rfl rfl) rfl rfl rfl ?_
    | refine LOps.valG (LVal.extract rfl rfl rfl) rfl rfl rfl ?_
    | refine LOps.valG (LVal.convInt hD rfl rfl rfl rfl rfl) rfl rfl rfl ?_
    | refine LOps.valG (LVal.fieldAddr hD rfl rfl rfl rfl rfl rfl (by decide)) rfl rfl rfl ?_
    | refine LOps.valG (LVal.load hD rfl rfl (by first | assumption | exact box_new _ _ _ | exact box_set _ _ _ | (simp only [box_new, box_set, box_row, box_new_ne, box_set_ne, ne_eq, not_false_eq_true, *]; done) | (simp only [box_new, box_set, box_row, box_new_ne, box_set_ne, ne_eq, not_false_eq_true, *]; rfl)) rfl rfl) rfl rfl rfl ?_
    | refine LOps.valG (LVal.indexMap hD rfl rfl rfl rfl rfl rfl (by first | assumption | omega) rfl) rfl rfl rfl ?_
    | refine LOps.valG (LVal.loadRo hD rfl rfl rfl rfl) rfl rfl rfl ?_
    | refine LOps.valG (LVal.fieldAddrRo hD rfl rfl rfl rfl rfl rfl (by decide)) rfl rfl rfl ?_
    | refine LOps.valG (LVal.field hD rfl rfl rfl rfl rfl rfl rfl) rfl rfl rfl ?_
    | refine LOps.valG (LVal.buildSlice1 hD rfl rfl rfl rfl rfl rfl rfl rfl rfl rfl) rfl rfl rfl ?_
    | refine LOps.valG (LVal.build hD rfl rfl rfl rfl rfl rfl rfl) rfl rfl rfl ?_
    | refine LOps.valG (LVal.buildSlice hD rfl rfl rfl rfl rfl rfl rfl rfl rfl rfl) rfl rfl rfl ?_
    | refine LOps.valG (LVal.takeMap hD rfl rfl rfl rfl rfl rfl (by first | assumption | omega) rfl (fun _ _ => rfl)) rfl rfl rfl ?_
    | refine LOps.valG (LVal.dropMap hD rfl rfl rfl rfl rfl rfl (by first | assumption | omega) rfl (fun _ _ => rfl)) rfl rfl rfl ?_
    | refine LOps.valG (LVal.cutMap hD rfl rfl rfl rfl rfl rfl rfl (by first | assumption | omega) (by first | assumption | omega) rfl (fun _ _ => rfl)) rfl rfl rfl ?_
    | refine LOps.valG (LVal.move2 rfl rfl) rfl rfl rfl ?_
    | refine LOps.valG (LVal.assign2 rfl rfl) rfl rfl rfl ?_
    | refine LOps.valG (LVal.move (.inl rfl)) rfl rfl rfl ?_
    | refine LOps.valG (LVal.move (.inr rfl)) rfl rfl rfl ?_
    | (refine LOps.do0 (LDo.store hD rfl rfl (by first | assumption | exact box_new _ _ _ | exact box_set _ _ _ | (simp only [box_new, box_set, box_row, box_new_ne, box_set_ne, ne_eq, not_false_eq_true, *]; done) | (simp only [box_new, box_set, box_row, box_new_ne, box_set_ne, ne_eq, not_false_eq_true, *]; rfl)) rfl rfl rfl rfl) rfl rfl ?_; rintro _ _ ⟨rfl, rfl⟩))
  refine LOps.do (LDo.box rfl rfl) rfl rfl rfl ?_
  rintro _ _ ⟨bw, hbw, rfl, rfl⟩
  repeat (first
    | refine LOps.nil ?_
    | refine andThen_normal ?_
    | refine andThen_exit ?_
    | refine andThen_ret ?_
    | refine inBlock_normal ?_
    | refine inBlock_ret ?_
    | refine inBlock_here ?_
    | refine inBlock_out rfl ?_
    | refine LWp.seq ?_
    | refine LWp.region ?_
    | refine LWp.block ?_
    | refine LWp.exit ?_
    | refine LWp.ret ?_
    | refine LWp.skip ?_
    | refine LOps.val (LVal.move1 rfl rfl) rfl rfl rfl ?_
    | refine LOps.val (LVal.assign1 rfl rfl) rfl rfl rfl ?_
    | refine LOps.val (LVal.len hD rfl rfl rfl rfl) rfl rfl rfl ?_
    | refine LOps.val (LVal.lenStr hD rfl rfl rfl rfl) rfl rfl rfl ?_
    | refine LOps.val (LVal.add64 rfl rfl rfl (by omega)) rfl rfl rfl ?_
    | refine LOps.val (LVal.sub64 rfl rfl rfl (by omega)) rfl rfl rfl ?_
    | refine LOps.val (LVal.addU64 rfl rfl rfl (by omega)) rfl rfl rfl ?_
    | refine LOps.val (LVal.subU64 rfl rfl rfl (by omega)) rfl rfl rfl ?_
    | refine LOps.val (LVal.mulU64 rfl rfl rfl (by omega)) rfl rfl rfl ?_
    | refine LOps.val (LVal.remI rfl rfl rfl (by omega)) rfl rfl rfl ?_
    | refine LOps.val (LVal.quoU64 rfl rfl rfl (by omega)) rfl rfl rfl ?_
    | refine LOps.val (LVal.quo64 rfl rfl rfl (by omega)) rfl rfl rfl ?_
    | refine LOps.val (LVal.mul64 rfl rfl rfl (by omega)) rfl rfl rfl ?_
    | refine LOps.val (LVal.conv64 hD rfl rfl rfl rfl rfl (by omega)) rfl rfl rfl ?_
    | refine LOps.val (LVal.convU64 hD rfl rfl rfl rfl rfl (by omega)) rfl rfl rfl ?_
    | refine LOps.val (LVal.neqSame hD rfl rfl rfl) rfl rfl rfl ?_
    | refine LOps.val (LVal.neqSameB hD rfl rfl rfl rfl rfl) rfl rfl rfl ?_
    | refine LOps.val (LVal.binOp hD rfl rfl rfl rfl) rfl rfl rfl ?_
    | refine LOps.val (LVal.unOp rfl rfl rfl) rfl rfl rfl ?_
    | refine LOps.val (LVal.pick rfl rfl) rfl rfl rfl ?_
    | refine LOps.val (LVal.extract rfl rfl rfl) rfl rfl rfl ?_
    | refine LOps.val (LVal.convInt hD rfl rfl rfl rfl rfl) rfl rfl rfl ?_
    | refine LOps.val (LVal.fieldAddr hD rfl rfl rfl rfl rfl rfl (by decide)) rfl rfl rfl ?_
    | refine LOps.val (LVal.load hD rfl rfl (by first | assumption | exact box_new _ _ _ | exact box_set _ _ _ | (simp only [box_new, box_set, box_row, box_new_ne, box_set_ne, ne_eq, not_false_eq_true, *]; done) | (simp only [box_new, box_set, box_row, box_new_ne, box_set_ne, ne_eq, not_false_eq_true, *]; rfl)) rfl rfl) rfl rfl rfl ?_
    | refine LOps.val (LVal.indexMap hD rfl rfl rfl rfl rfl rfl (by first | assumption | omega) rfl) rfl rfl rfl ?_
    | refine LOps.val (LVal.loadRo hD rfl rfl rfl rfl) rfl rfl rfl ?_
    | refine LOps.val (LVal.fieldAddrRo hD rfl rfl rfl rfl rfl rfl (by decide)) rfl rfl rfl ?_
    | refine LOps.val (LVal.field hD rfl rfl rfl rfl rfl rfl rfl) rfl rfl rfl ?_
    | refine LOps.val (LVal.buildSlice1 hD rfl rfl rfl rfl rfl rfl rfl rfl rfl rfl) rfl rfl rfl ?_
    | refine LOps.val (LVal.build hD rfl rfl rfl rfl rfl rfl rfl) rfl rfl rfl ?_
    | refine LOps.val (LVal.buildSlice hD rfl rfl rfl rfl rfl rfl rfl rfl rfl rfl) rfl rfl rfl ?_
    | refine LOps.val (LVal.takeMap hD rfl rfl rfl rfl rfl rfl (by first | assumption | omega) rfl (fun _ _ => rfl)) rfl rfl rfl ?_
    | refine LOps.val (LVal.dropMap hD rfl rfl rfl rfl rfl rfl (by first | assumption | omega) rfl (fun _ _ => rfl)) rfl rfl rfl ?_
    | refine LOps.val (LVal.cutMap hD rfl rfl rfl rfl rfl rfl rfl (by first | assumption | omega) (by first | assumption | omega) rfl (fun _ _ => rfl)) rfl rfl rfl ?_
    | refine LOps.val (LVal.move2 rfl rfl) rfl rfl rfl ?_
    | refine LOps.val (LVal.assign2 rfl rfl) rfl rfl rfl ?_
    | refine LOps.val (LVal.move (.inl rfl)) rfl rfl rfl ?_
    | refine LOps.val (LVal.move (.inr rfl)) rfl rfl rfl ?_
    | refine LOps.out rfl rfl rfl ?_
    | refine LOps.valG (LVal.move1 rfl rfl) rfl rfl rfl ?_
    | refine LOps.valG (LVal.assign1 rfl rfl) rfl rfl rfl ?_
    | refine LOps.valG (LVal.len hD rfl rfl rfl rfl) rfl rfl rfl ?_
    | refine LOps.valG (LVal.lenStr hD rfl rfl rfl rfl) rfl rfl rfl ?_
    | refine LOps.valG (LVal.add64 rfl rfl rfl (by omega)) rfl rfl rfl ?_
    | refine LOps.valG (LVal.sub64 rfl rfl rfl (by omega)) rfl rfl rfl ?_
    | refine LOps.valG (LVal.addU64 rfl rfl rfl (by omega)) rfl rfl rfl ?_
    | refine LOps.valG (LVal.subU64 rfl rfl rfl (by omega)) rfl rfl rfl ?_
    | refine LOps.valG (LVal.mulU64 rfl rfl rfl (by omega)) rfl rfl rfl ?_
    | refine LOps.valG (LVal.remI rfl rfl rfl (by omega)) rfl rfl rfl ?_
    | refine LOps.valG (LVal.quoU64 rfl rfl rfl (by omega)) rfl rfl rfl ?_
    | refine LOps.valG (LVal.quo64 rfl rfl rfl (by omega)) rfl rfl rfl ?_
    | refine LOps.valG (LVal.mul64 rfl rfl rfl (by omega)) rfl rfl rfl ?_
    | refine LOps.valG (LVal.conv64 hD rfl rfl rfl rfl rfl (by omega)) rfl rfl rfl ?_
    | refine LOps.valG (LVal.convU64 hD rfl rfl rfl rfl rfl (by omega)) rfl rfl rfl ?_
    | refine LOps.valG (LVal.neqSame hD rfl rfl rfl) rfl rfl rfl ?_
    | refine LOps.valG (LVal.neqSameB hD rfl rfl rfl rfl rfl) rfl rfl rfl ?_
    | refine LOps.valG (LVal.binOp hD rfl rfl rfl rfl) rfl rfl rfl ?_
    | refine LOps.valG (LVal.unOp rfl rfl rfl) rfl rfl rfl ?_
    | refine LOps.valG (LVal.pick rfl rfl) rfl rfl rfl ?_
    | refine LOps.valG (LVal.extract rfl rfl rfl) rfl rfl rfl ?_
    | refine LOps.valG (LVal.convInt hD rfl rfl rfl rfl rfl) rfl rfl rfl ?_
    | refine LOps.valG (LVal.fieldAddr hD rfl rfl rfl rfl rfl rfl (by decide)) rfl rfl rfl ?_
    | refine LOps.valG (LVal.load hD rfl rfl (by first | assumption | exact box_new _ _ _ | exact box_set _ _ _ | (simp only [box_new, box_set, box_row, box_new_ne, box_set_ne, ne_eq, not_false_eq_true, *]; done) | (simp only [box_new, box_set, box_row, box_new_ne, box_set_ne, ne_eq, not_false_eq_true, *]; rfl)) rfl rfl) rfl rfl rfl ?_
    | refine LOps.valG (LVal.indexMap hD rfl rfl rfl rfl rfl rfl (by first | assumption | omega) rfl) rfl rfl rfl ?_
    | refine LOps.valG (LVal.loadRo hD rfl rfl rfl rfl) rfl rfl rfl ?_
    | refine LOps.valG (LVal.fieldAddrRo hD rfl rfl rfl rfl rfl rfl (by decide)) rfl rfl rfl ?_
    | refine LOps.valG (LVal.field hD rfl rfl rfl rfl rfl rfl rfl) rfl rfl rfl ?_
    | refine LOps.valG (LVal.buildSlice1 hD rfl rfl rfl rfl rfl rfl rfl rfl rfl rfl) rfl rfl rfl ?_
    | refine LOps.valG (LVal.build hD rfl rfl rfl rfl rfl rfl rfl) rfl rfl rfl ?_
    | refine LOps.valG (LVal.buildSlice hD rfl rfl rfl rfl rfl rfl rfl rfl rfl rfl) rfl rfl rfl ?_
    | refine LOps.valG (LVal.takeMap hD rfl rfl rfl rfl rfl rfl (by first | assumption | omega) rfl (fun _ _ => rfl)) rfl rfl rfl ?_
    | refine LOps.valG (LVal.dropMap hD rfl rfl rfl rfl rfl rfl (by first | assumption | omega) rfl (fun _ _ => rfl)) rfl rfl rfl ?_
    | refine LOps.valG (LVal.cutMap hD rfl rfl rfl rfl rfl rfl rfl (by first | assumption | omega) (by first | assumption | omega) rfl (fun _ _ => rfl)) rfl rfl rfl ?_
    | refine LOps.valG (LVal.move2 rfl rfl) rfl rfl rfl ?_
    | refine LOps.valG (LVal.assign2 rfl rfl) rfl rfl rfl ?_
    | refine LOps.valG (LVal.move (.inl rfl)) rfl rfl rfl ?_
    | refine LOps.valG (LVal.move (.inr rfl)) rfl rfl rfl ?_
    | (refine LOps.do0 (LDo.store hD rfl rfl (by first | assumption | exact box_new _ _ _ | exact box_set _ _ _ | (simp only [box_new, box_set, box_row, box_new_ne, box_set_ne, ne_eq, not_false_eq_true, *]; done) | (simp only [box_new, box_set, box_row, box_new_ne, box_set_ne, ne_eq, not_false_eq_true, *]; rfl)) rfl rfl rfl rfl) rfl rfl ?_; rintro _ _ ⟨rfl, rfl⟩))
  refine LWp.drawL [1, 2, 4, 5, 0, 3, 6, 7] hm rfl ?_
  repeat (first
    | refine LRl.nil ?_
    | refine LRl.val (fun _ hS => LVal.move1 rfl rfl) rfl rfl rfl ?_
    | refine LRl.val (fun _ hS => LVal.assign1 rfl rfl) rfl rfl rfl ?_
    | refine LRl.val (fun _ hS => LVal.len hD rfl rfl rfl rfl) rfl rfl rfl ?_
    | refine LRl.val (fun _ hS => LVal.lenStr hD rfl rfl rfl rfl) rfl rfl rfl ?_
    | refine LRl.val (fun _ hS => LVal.add64 rfl rfl rfl (by omega)) rfl rfl rfl ?_
    | refine LRl.val (fun _ hS => LVal.sub64 rfl rfl rfl (by omega)) rfl rfl rfl ?_
    | refine LRl.val (fun _ hS => LVal.addU64 rfl rfl rfl (by omega)) rfl rfl rfl ?_
    | refine LRl.val (fun _ hS => LVal.subU64 rfl rfl rfl (by omega)) rfl rfl rfl ?_
    | refine LRl.val (fun _ hS => LVal.mulU64 rfl rfl rfl (by omega)) rfl rfl rfl ?_
    | refine LRl.val (fun _ hS => LVal.remI rfl rfl rfl (by omega)) rfl rfl rfl ?_
    | refine LRl.val (fun _ hS => LVal.quoU64 rfl rfl rfl (by omega)) rfl rfl rfl ?_
    | refine LRl.val (fun _ hS => LVal.quo64 rfl rfl rfl (by omega)) rfl rfl rfl ?_
    | refine LRl.val (fun _ hS => LVal.mul64 rfl rfl rfl (by omega)) rfl rfl rfl ?_
    | refine LRl.val (fun _ hS => LVal.conv64 hD rfl rfl rfl rfl rfl (by omega)) rfl rfl rfl ?_
    | refine LRl.val (fun _ hS => LVal.convU64 hD rfl rfl rfl rfl rfl (by omega)) rfl rfl rfl ?_
    | refine LRl.val (fun _ hS => LVal.neqSame hD rfl rfl rfl) rfl rfl rfl ?_
    | refine LRl.val (fun _ hS => LVal.neqSameB hD rfl rfl rfl rfl rfl) rfl rfl rfl ?_
    | refine LRl.val (fun _ hS => LVal.binOp hD rfl rfl rfl rfl) rfl rfl rfl ?_
    | refine LRl.val (fun _ hS => LVal.unOp rfl rfl rfl) rfl rfl rfl ?_
    | refine LRl.val (fun _ hS => LVal.pick rfl rfl) rfl rfl rfl ?_
    | refine LRl.val (fun _ hS => LVal.extract rfl rfl rfl) rfl rfl rfl ?_
    | refine LRl.val (fun _ hS => LVal.convInt hD rfl rfl rfl rfl rfl) rfl rfl rfl ?_
    | refine LRl.val (fun _ hS => LVal.fieldAddr hD rfl rfl rfl rfl rfl rfl (by decide)) rfl rfl rfl ?_
    | refine LRl.val (fun _ hS => LVal.load hD rfl rfl (hS.box _ _ (by first | assumption | exact box_new _ _ _ | exact box_set _ _ _ | (simp only [box_new, box_set, box_row, box_new_ne, box_set_ne, ne_eq, not_false_eq_true, *]; done) | (simp only [box_new, box_set, box_row, box_new_ne, box_set_ne, ne_eq, not_false_eq_true, *]; rfl))) rfl rfl) rfl rfl rfl ?_
    | refine LRl.val (fun _ hS => LVal.indexMap hD rfl rfl rfl rfl rfl rfl (by first | assumption | omega) rfl) rfl rfl rfl ?_
    | refine LRl.val (fun _ hS => LVal.loadRo hD rfl rfl rfl rfl) rfl rfl rfl ?_
    | refine LRl.val (fun _ hS => LVal.fieldAddrRo hD rfl rfl rfl rfl rfl rfl (by decide)) rfl rfl rfl ?_
    | refine LRl.val (fun _ hS => LVal.field hD rfl rfl rfl rfl rfl rfl rfl) rfl rfl rfl ?_
    | refine LRl.val (fun _ hS => LVal.buildSlice1 hD rfl rfl rfl rfl rfl rfl rfl rfl rfl rfl) rfl rfl rfl ?_
    | refine LRl.val (fun _ hS => LVal.build hD rfl rfl rfl rfl rfl rfl rfl) rfl rfl rfl ?_
    | refine LRl.val (fun _ hS => LVal.takeMap hD rfl rfl rfl rfl rfl rfl (by first | assumption | omega) rfl (fun _ _ => rfl)) rfl rfl rfl ?_
    | refine LRl.val (fun _ hS => LVal.dropMap hD rfl rfl rfl rfl rfl rfl (by first | assumption | omega) rfl (fun _ _ => rfl)) rfl rfl rfl ?_
    | refine LRl.val (fun _ hS => LVal.cutMap hD rfl rfl rfl rfl rfl rfl rfl (by first | assumption | omega) (by first | assumption | omega) rfl (fun _ _ => rfl)) rfl rfl rfl ?_
    | refine LRl.val (fun _ hS => LVal.move2 rfl rfl) rfl rfl rfl ?_
    | refine LRl.val (fun _ hS => LVal.assign2 rfl rfl) rfl rfl rfl ?_
    | refine LRl.val (fun _ hS => LVal.move (.inl rfl)) rfl rfl rfl ?_
    | refine LRl.val (fun _ hS => LVal.move (.inr rfl)) rfl rfl rfl ?_
    | refine LRl.skip rfl rfl rfl ?_)
  refine LRl.act (LDo.emptySlice hD rfl rfl rfl rfl rfl rfl rfl) rfl rfl rfl rfl ?_ ?_
  · rintro _ _ ⟨b, hb, rfl, rfl⟩; exact .inl (.newRow hb _ _)
  rintro _ _ ⟨b, hb, rfl, rfl⟩
  refine LRl.act (LDo.appendN hD rfl rfl rfl rfl rfl rfl rfl rfl rfl (show [].length = 0 from rfl) (iList_len xs) (.new _ _ _ _) (iList_one xs) (by omega)) rfl rfl rfl rfl ?_ ?_
  · rintro _ _ ⟨o', rfl, hown, hup, hnew⟩; exact .inl (.upto hup)
  rintro _ S1 ⟨o1, rfl, hown, hup, hnew⟩
  refine LRl.act (LDo.appendN hD rfl rfl rfl rfl rfl rfl rfl rfl rfl (show _ = 0 + xs.length by rw [List.nil_append, iList_len, Nat.zero_add]) (iList_len ys) hown (iList_one ys) (by omega)) rfl rfl rfl rfl ?_ ?_
  · rintro _ _ ⟨o', rfl, hown, hup, hnew⟩; exact .inl (.upto hup)
  rintro _ S2 ⟨o2, rfl, hown2, hup2, hnew2⟩
  repeat (first
    | refine LRl.nil ?_
    | refine LRl.val (fun _ hS => LVal.move1 rfl rfl) rfl rfl rfl ?_
    | refine LRl.val (fun _ hS => LVal.assign1 rfl rfl) rfl rfl rfl ?_
    | refine LRl.val (fun _ hS => LVal.len hD rfl rfl rfl rfl) rfl rfl rfl ?_
    | refine LRl.val (fun _ hS => LVal.lenStr hD rfl rfl rfl rfl) rfl rfl rfl ?_
    | refine LRl.val (fun _ hS => LVal.add64 rfl rfl rfl (by omega)) rfl rfl rfl ?_
    | refine LRl.val (fun _ hS => LVal.sub64 rfl rfl rfl (by omega)) rfl rfl rfl ?_
    | refine LRl.val (fun _ hS => LVal.addU64 rfl rfl rfl (by omega)) rfl rfl rfl ?_
    | refine LRl.val (fun _ hS => LVal.subU64 rfl rfl rfl (by omega)) rfl rfl rfl ?_
    | refine LRl.val (fun _ hS => LVal.mulU64 rfl rfl rfl (by omega)) rfl rfl rfl ?_
    | refine LRl.val (fun _ hS => LVal.remI rfl rfl rfl (by omega)) rfl rfl rfl ?_
    | refine LRl.val (fun _ hS => LVal.quoU64 rfl rfl rfl (by omega)) rfl rfl rfl ?_
    | refine LRl.val (fun _ hS => LVal.quo64 rfl rfl rfl (by omega)) rfl rfl rfl ?_
    | refine LRl.val (fun _ hS => LVal.mul64 rfl rfl rfl (by omega)) rfl rfl rfl ?_
    | refine LRl.val (fun _ hS => LVal.conv64 hD rfl rfl rfl rfl rfl (by omega)) rfl rfl rfl ?_
    | refine LRl.val (fun _ hS => LVal.convU64 hD rfl rfl rfl rfl rfl (by omega)) rfl rfl rfl ?_
    | refine LRl.val (fun _ hS => LVal.neqSame hD rfl rfl rfl) rfl rfl rfl ?_
    | refine LRl.val (fun _ hS => LVal.neqSameB hD rfl rfl rfl rfl rfl) rfl rfl rfl ?_
    | refine LRl.val (fun _ hS => LVal.binOp hD rfl rfl rfl rfl) rfl rfl rfl ?_
    | refine LRl.val (fun _ hS => LVal.unOp rfl rfl rfl) rfl rfl rfl ?_
    | refine LRl.val (fun _ hS => LVal.pick rfl rfl) rfl rfl rfl ?_
    | refine LRl.val (fun _ hS => LVal.extract rfl rfl rfl) rfl rfl rfl ?_
    | refine LRl.val (fun _ hS => LVal.convInt hD rfl rfl rfl rfl rfl) rfl rfl rfl ?_
    | refine LRl.val (fun _ hS => LVal.fieldAddr hD rfl rfl rfl rfl rfl rfl (by decide)) rfl rfl rfl ?_
    | refine LRl.val (fun _ hS => LVal.load hD rfl rfl (hS.box _ _ (by first | assumption | exact box_new _ _ _ | exact box_set _ _ _ | (simp only [box_new, box_set, box_row, box_new_ne, box_set_ne, ne_eq, not_false_eq_true, *]; done) | (simp only [box_new, box_set, box_row, box_new_ne, box_set_ne, ne_eq, not_false_eq_true, *]; rfl))) rfl rfl) rfl rfl rfl ?_
    | refine LRl.val (fun _ hS => LVal.indexMap hD rfl rfl rfl rfl rfl rfl (by first | assumption | omega) rfl) rfl rfl rfl ?_
    | refine LRl.val (fun _ hS => LVal.loadRo hD rfl rfl rfl rfl) rfl rfl rfl ?_
    | refine LRl.val (fun _ hS => LVal.fieldAddrRo hD rfl rfl rfl rfl rfl rfl (by decide)) rfl rfl rfl ?_
    | refine LRl.val (fun _ hS => LVal.field hD rfl rfl rfl rfl rfl rfl rfl) rfl rfl rfl ?_
    | refine LRl.val (fun _ hS => LVal.buildSlice1 hD rfl rfl rfl rfl rfl rfl rfl rfl rfl rfl) rfl rfl rfl ?_
    | refine LRl.val (fun _ hS => LVal.build hD rfl rfl rfl rfl rfl rfl rfl) rfl rfl rfl ?_
    | refine LRl.val (fun _ hS => LVal.takeMap hD rfl rfl rfl rfl rfl rfl (by first | assumption | omega) rfl (fun _ _ => rfl)) rfl rfl rfl ?_
    | refine LRl.val (fun _ hS => LVal.dropMap hD rfl rfl rfl rfl rfl rfl (by first | assumption | omega) rfl (fun _ _ => rfl)) rfl rfl rfl ?_
    | refine LRl.val (fun _ hS => LVal.cutMap hD rfl rfl rfl rfl rfl rfl rfl (by first | assumption | omega) (by first | assumption | omega) rfl (fun _ _ => rfl)) rfl rfl rfl ?_
    | refine LRl.val (fun _ hS => LVal.move2 rfl rfl) rfl rfl rfl ?_
    | refine LRl.val (fun _ hS => LVal.assign2 rfl rfl) rfl rfl rfl ?_
    | refine LRl.val (fun _ hS => LVal.move (.inl rfl)) rfl rfl rfl ?_
    | refine LRl.val (fun _ hS => LVal.move (.inr rfl)) rfl rfl rfl ?_
    | refine LRl.skip rfl rfl rfl ?_)
  repeat (first
    | refine LOps.nil ?_
    | refine andThen_normal ?_
    | refine andThen_exit ?_
    | refine andThen_ret ?_
    | refine inBlock_normal ?_
    | refine inBlock_ret ?_
    | refine inBlock_here ?_
    | refine inBlock_out rfl ?_
    | refine LWp.seq ?_
    | refine LWp.region ?_
    | refine LWp.block ?_
    | refine LWp.exit ?_
    | refine LWp.ret ?_
    | refine LWp.skip ?_
    | refine LOps.val (LVal.move1 rfl rfl) rfl rfl rfl ?_
    | refine LOps.val (LVal.assign1 rfl rfl) rfl rfl rfl ?_
    | refine LOps.val (LVal.len hD rfl rfl rfl rfl) rfl rfl rfl ?_
    | refine LOps.val (LVal.lenStr hD rfl rfl rfl rfl) rfl rfl rfl ?_
    | refine LOps.val (LVal.add64 rfl rfl rfl (by omega)) rfl rfl rfl ?_
    | refine LOps.val (LVal.sub64 rfl rfl rfl (by omega)) rfl rfl rfl ?_
    | refine LOps.val (LVal.addU64 rfl rfl rfl (by omega)) rfl rfl rfl ?_
    | refine LOps.val (LVal.subU64 rfl rfl rfl (by omega)) rfl rfl rfl ?_
    | refine LOps.val (LVal.mulU64 rfl rfl rfl (by omega)) rfl rfl rfl ?_
    | refine LOps.val (LVal.remI rfl rfl rfl (by omega)) rfl rfl rfl ?_
    | refine LOps.val (LVal.quoU64 rfl rfl rfl (by omega)) rfl rfl rfl ?_
    | refine LOps.val (LVal.quo64 rfl rfl rfl (by omega)) rfl rfl rfl ?_
    | refine LOps.val (LVal.mul64 rfl rfl rfl (by omega)) rfl rfl rfl ?_
    | refine LOps.val (LVal.conv64 hD rfl rfl rfl rfl rfl (by omega)) rfl rfl rfl ?_
    | refine LOps.val (LVal.convU64 hD rfl rfl rfl rfl rfl (by omega)) rfl rfl rfl ?_
    | refine LOps.val (LVal.neqSame hD rfl rfl rfl) rfl rfl rfl ?_
    | refine LOps.val (LVal.neqSameB hD rfl rfl rfl rfl rfl) rfl rfl rfl ?_
    | refine LOps.val (LVal.binOp hD rfl rfl rfl rfl) rfl rfl rfl ?_
    | refine LOps.val (LVal.unOp rfl rfl rfl) rfl rfl rfl ?_
    | refine LOps.val (LVal.pick rfl rfl) rfl rfl rfl ?_
    | refine LOps.val (LVal.extract rfl rfl rfl) rfl rfl rfl ?_
    | refine LOps.val (LVal.convInt hD rfl rfl rfl rfl rfl) rfl rfl rfl ?_
    | refine LOps.val (LVal.fieldAddr hD rfl rfl rfl rfl rfl rfl (by decide)) rfl rfl rfl ?_
    | refine LOps.val (LVal.load hD rfl rfl (by first | assumption | exact box_new _ _ _ | exact box_set _ _ _ | (simp only [box_new, box_set, box_row, box_new_ne, box_set_ne, ne_eq, not_false_eq_true, *]; done) | (simp only [box_new, box_set, box_row, box_new_ne, box_set_ne, ne_eq, not_false_eq_true, *]; rfl)) rfl rfl) rfl rfl rfl ?_
    | refine LOps.val (LVal.indexMap hD rfl rfl rfl rfl rfl rfl (by first | assumption | omega) rfl) rfl rfl rfl ?_
    | refine LOps.val (LVal.loadRo hD rfl rfl rfl rfl) rfl rfl rfl ?_
    | refine LOps.val (LVal.fieldAddrRo hD rfl rfl rfl rfl rfl rfl (by decide)) rfl rfl rfl ?_
    | refine LOps.val (LVal.field hD rfl rfl rfl rfl rfl rfl rfl) rfl rfl rfl ?_
    | refine LOps.val (LVal.buildSlice1 hD rfl rfl rfl rfl rfl rfl rfl rfl rfl rfl) rfl rfl rfl ?_
    | refine LOps.val (LVal.build hD rfl rfl rfl rfl rfl rfl rfl) rfl rfl rfl ?_
    | refine LOps.val (LVal.buildSlice hD rfl rfl rfl rfl rfl rfl rfl rfl rfl rfl) rfl rfl rfl ?_
    | refine LOps.val (LVal.takeMap hD rfl rfl rfl rfl rfl rfl (by first | assumption | omega) rfl (fun _ _ => rfl)) rfl rfl rfl ?_
    | refine LOps.val (LVal.dropMap hD rfl rfl rfl rfl rfl rfl (by first | assumption | omega) rfl (fun _ _ => rfl)) rfl rfl rfl ?_
    | refine LOps.val (LVal.cutMap hD rfl rfl rfl rfl rfl rfl rfl (by first | assumption | omega) (by first | assumption | omega) rfl (fun _ _ => rfl)) rfl rfl rfl ?_
    | refine LOps.val (LVal.move2 rfl rfl) rfl rfl rfl ?_
    | refine LOps.val (LVal.assign2 rfl rfl) rfl rfl rfl ?_
    | refine LOps.val (LVal.move (.inl rfl)) rfl rfl rfl ?_
    | refine LOps.val (LVal.move (.inr rfl)) rfl rfl rfl ?_
    | refine LOps.out rfl rfl rfl ?_
    | refine LOps.valG (LVal.move1 rfl rfl) rfl rfl rfl ?_
    | refine LOps.valG (LVal.assign1 rfl rfl) rfl rfl rfl ?_
    | refine LOps.valG (LVal.len hD rfl rfl rfl rfl) rfl rfl rfl ?_
    | refine LOps.valG (LVal.lenStr hD rfl rfl rfl rfl) rfl rfl rfl ?_
    | refine LOps.valG (LVal.add64 rfl rfl rfl (by omega)) rfl rfl rfl ?_
    | refine LOps.valG (LVal.sub64 rfl rfl rfl (by omega)) rfl rfl rfl ?_
    | refine LOps.valG (LVal.addU64 rfl rfl rfl (by omega)) rfl rfl rfl ?_
    | refine LOps.valG (LVal.subU64 rfl rfl rfl (by omega)) rfl rfl rfl ?_
    | refine LOps.valG (LVal.mulU64 rfl rfl rfl (by omega)) rfl rfl rfl ?_
    | refine LOps.valG (LVal.remI rfl rfl rfl (by omega)) rfl rfl rfl ?_
    | refine LOps.valG (LVal.quoU64 rfl rfl rfl (by omega)) rfl rfl rfl ?_
    | refine LOps.valG (LVal.quo64 rfl rfl rfl (by omega)) rfl rfl rfl ?_
    | refine LOps.valG (LVal.mul64 rfl rfl rfl (by omega)) rfl rfl rfl ?_
    | refine LOps.valG (LVal.conv64 hD rfl rfl rfl rfl rfl (by omega)) rfl rfl rfl ?_
    | refine LOps.valG (LVal.convU64 hD rfl rfl rfl rfl rfl (by omega)) rfl rfl rfl ?_
    | refine LOps.valG (LVal.neqSame hD rfl rfl rfl) rfl rfl rfl ?_
    | refine LOps.valG (LVal.neqSameB hD rfl rfl rfl rfl rfl) rfl rfl rfl ?_
    | refine LOps.valG (LVal.binOp hD rfl rfl rfl rfl) rfl rfl rfl ?_
    | refine LOps.valG (LVal.unOp rfl rfl rfl) rfl rfl rfl ?_
    | refine LOps.valG (LVal.pick rfl rfl) rfl rfl rfl ?_
    | refine LOps.valG (LVal.extract rfl rfl rfl) rfl rfl rfl ?_
    | refine LOps.valG (LVal.convInt hD rfl rfl rfl rfl rfl) rfl rfl rfl ?_
    | refine LOps.valG (LVal.fieldAddr hD rfl rfl rfl rfl rfl rfl (by decide)) rfl rfl rfl ?_
    | refine LOps.valG (LVal.load hD rfl rfl (by first | assumption | exact box_new _ _ _ | exact box_set _ _ _ | (simp only [box_new, box_set, box_row, box_new_ne, box_set_ne, ne_eq, not_false_eq_true, *]; done) | (simp only [box_new, box_set, box_row, box_new_ne, box_set_ne, ne_eq, not_false_eq_true, *]; rfl)) rfl rfl) rfl rfl rfl ?_
    | refine LOps.valG (LVal.indexMap hD rfl rfl rfl rfl rfl rfl (by first | assumption | omega) rfl) rfl rfl rfl ?_
    | refine LOps.valG (LVal.loadRo hD rfl rfl rfl rfl) rfl rfl rfl ?_
    | refine LOps.valG (LVal.fieldAddrRo hD rfl rfl rfl rfl rfl rfl (by decide)) rfl rfl rfl ?_
    | refine LOps.valG (LVal.field hD rfl rfl rfl rfl rfl rfl rfl) rfl rfl rfl ?_
    | refine LOps.valG (LVal.buildSlice1 hD rfl rfl rfl rfl rfl rfl rfl rfl rfl rfl) rfl rfl rfl ?_
    | refine LOps.valG (LVal.build hD rfl rfl rfl rfl rfl rfl rfl) rfl rfl rfl ?_
    | refine LOps.valG (LVal.buildSlice hD rfl rfl rfl rfl rfl rfl rfl rfl rfl rfl) rfl rfl rfl ?_
    | refine LOps.valG (LVal.takeMap hD rfl rfl rfl rfl rfl rfl (by first | assumption | omega) rfl (fun _ _ => rfl)) rfl rfl rfl ?_
    | refine LOps.valG (LVal.dropMap hD rfl rfl rfl rfl rfl rfl (by first | assumption | omega) rfl (fun _ _ => rfl)) rfl rfl rfl ?_
    | refine LOps.valG (LVal.cutMap hD rfl rfl rfl rfl rfl rfl rfl (by first | assumption | omega) (by first | assumption | omega) rfl (fun _ _ => rfl)) rfl rfl rfl ?_
    | refine LOps.valG (LVal.move2 rfl rfl) rfl rfl rfl ?_
    | refine LOps.valG (LVal.assign2 rfl rfl) rfl rfl rfl ?_
    | refine LOps.valG (LVal.move (.inl rfl)) rfl rfl rfl ?_
    | refine LOps.valG (LVal.move (.inr rfl)) rfl rfl rfl ?_
    | (refine LOps.do0 (LDo.store hD rfl rfl (by first | assumption | exact box_new _ _ _ | exact box_set _ _ _ | (simp only [box_new, box_set, box_row, box_new_ne, box_set_ne, ne_eq, not_false_eq_true, *]; done) | (simp only [box_new, box_set, box_row, box_new_ne, box_set_ne, ne_eq, not_false_eq_true, *]; rfl)) rfl rfl rfl rfl) rfl rfl ?_; rintro _ _ ⟨rfl, rfl⟩))
  obtain ⟨l, hll⟩ : ∃ l, l = xs ++ ys := ⟨_, rfl⟩
  have hl15 : l.length = 15 := by rw [hll, List.length_append]; exact hl
  have hdl := dig_lt l (by rw [hll]; exact h16)
  rw [hl15] at hdl
  have hwd : wd xs.length (xs ++ ys) = xs.length + 16 * dig l := by rw [hll]; rfl
  have hle : S.le S2 := ((LS.le.refl S).newBox hbw _).newRow hb _ _ |>.upto hup (.fresh (.newBox (.refl _) hbw _) hb) |>.upto hup2 (Out.next (.newRow (.newBox (.refl _) hbw _) hb _ _) (.fresh (.newBox (.refl _) hbw _) hb) hnew)
  have hb2 : S2.box bw = some [.sl .sh (iList xs), .sl .sh (iList ys)] := hup2.box _ _ (hup.box _ _ (box_new _ _ _))
  refine LWp.loop (fun k T S' => ∃ T', S' = S2 ∧ k ≤ 15 ∧ T = over T' [(1, .one (.v (.pointer (some ⟨bw, 0, none⟩)))), (3, .one (.sl o2 (iList l))), (4, .one (.v (.int .u64 (dig (l.drop k) : Nat)))), (5, .one (iv ((k : Int) - 1)))]) 15 ?_ ?_
  · refine ⟨_, rfl, by omega, holds.over ⟨rfl, ?_, ?_, ?_, trivial⟩⟩
    · rw [hll, ← iList_app]; rfl
    · rw [List.drop_of_length_le (by omega)]; rfl
    · have e : ([] ++ iList xs ++ iList ys).length = 15 := by simp; omega
      show TV.one (iv (IntKind.i64.wrap ((([] ++ iList xs ++ iList ys).length : Int) - 1))) = _
      rw [e]; rfl
  rintro k T S' ⟨T', rfl, hk, rfl⟩
  repeat (first
    | refine LOps.nil ?_
    | refine andThen_normal ?_
    | refine andThen_exit ?_
    | refine andThen_ret ?_
    | refine inBlock_normal ?_
    | refine inBlock_ret ?_
    | refine inBlock_here ?_
    | refine inBlock_out rfl ?_
    | refine LWp.seq ?_
    | refine LWp.region ?_
    | refine LWp.block ?_
    | refine LWp.exit ?_
    | refine LWp.ret ?_
    | refine LWp.skip ?_
    | refine LOps.val (LVal.move1 rfl rfl) rfl rfl rfl ?_
    | refine LOps.val (LVal.assign1 rfl rfl) rfl rfl rfl ?_
    | refine LOps.val (LVal.len hD rfl rfl rfl rfl) rfl rfl rfl ?_
    | refine LOps.val (LVal.lenStr hD rfl rfl rfl rfl) rfl rfl rfl ?_
    | refine LOps.val (LVal.add64 rfl rfl rfl (by omega)) rfl rfl rfl ?_
    | refine LOps.val (LVal.sub64 rfl rfl rfl (by omega)) rfl rfl rfl ?_
    | refine LOps.val (LVal.addU64 rfl rfl rfl (by omega)) rfl rfl rfl ?_
    | refine LOps.val (LVal.subU64 rfl rfl rfl (by omega)) rfl rfl rfl ?_
    | refine LOps.val (LVal.mulU64 rfl rfl rfl (by omega)) rfl rfl rfl ?_
    | refine LOps.val (LVal.remI rfl rfl rfl (by omega)) rfl rfl rfl ?_
    | refine LOps.val (LVal.quoU64 rfl rfl rfl (by omega)) rfl rfl rfl ?_
    | refine LOps.val (LVal.quo64 rfl rfl rfl (by omega)) rfl rfl rfl ?_
    | refine LOps.val (LVal.mul64 rfl rfl rfl (by omega)) rfl rfl rfl ?_
    | refine LOps.val (LVal.conv64 hD rfl rfl rfl rfl rfl (by omega)) rfl rfl rfl ?_
    | refine LOps.val (LVal.convU64 hD rfl rfl rfl rfl rfl (by omega)) rfl rfl rfl ?_
    | refine LOps.val (LVal.neqSame hD rfl rfl rfl) rfl rfl rfl ?_
    | refine LOps.val (LVal.neqSameB hD rfl rfl rfl rfl rfl) rfl rfl rfl ?_
    | refine LOps.val (LVal.binOp hD rfl rfl rfl rfl) rfl rfl rfl ?_
    | refine LOps.val (LVal.unOp rfl rfl rfl) rfl rfl rfl ?_
    | refine LOps.val (LVal.pick rfl rfl) rfl rfl rfl ?_
    | refine LOps.val (LVal.extract rfl rfl rfl) rfl rfl rfl ?_
    | refine LOps.val (LVal.convInt hD rfl rfl rfl rfl rfl) rfl rfl rfl ?_
    | refine LOps.val (LVal.fieldAddr hD rfl rfl rfl rfl rfl rfl (by decide)) rfl rfl rfl ?_
    | refine LOps.val (LVal.load hD rfl rfl (by first | assumption | exact box_new _ _ _ | exact box_set _ _ _ | (simp only [box_new, box_set, box_row, box_new_ne, box_set_ne, ne_eq, not_false_eq_true, *]; done) | (simp only [box_new, box_set, box_row, box_new_ne, box_set_ne, ne_eq, not_false_eq_true, *]; rfl)) rfl rfl) rfl rfl rfl ?_
    | refine LOps.val (LVal.indexMap hD rfl rfl rfl rfl rfl rfl (by first | assumption | omega) rfl) rfl rfl rfl ?_
    | refine LOps.val (LVal.loadRo hD rfl rfl rfl rfl) rfl rfl rfl ?_
    | refine LOps.val (LVal.fieldAddrRo hD rfl rfl rfl rfl rfl rfl (by decide)) rfl rfl rfl ?_
    | refine LOps.val (LVal.field hD rfl rfl rfl rfl rfl rfl rfl) rfl rfl rfl ?_
    | refine LOps.val (LVal.buildSlice1 hD rfl rfl rfl rfl rfl rfl rfl rfl rfl rfl) rfl rfl rfl ?_
    | refine LOps.val (LVal.build hD rfl rfl rfl rfl rfl rfl rfl) rfl rfl rfl ?_
    | refine LOps.val (LVal.buildSlice hD rfl rfl rfl rfl rfl rfl rfl rfl rfl rfl) rfl rfl rfl ?_
    | refine LOps.val (LVal.takeMap hD rfl rfl rfl rfl rfl rfl (by first | assumption | omega) rfl (fun _ _ => rfl)) rfl rfl rfl ?_
    | refine LOps.val (LVal.dropMap hD rfl rfl rfl rfl rfl rfl (by first | assumption | omega) rfl (fun _ _ => rfl)) rfl rfl rfl ?_
    | refine LOps.val (LVal.cutMap hD rfl rfl rfl rfl rfl rfl rfl (by first | assumption | omega) (by first | assumption | omega) rfl (fun _ _ => rfl)) rfl rfl rfl ?_
    | refine LOps.val (LVal.move2 rfl rfl) rfl rfl rfl ?_
    | refine LOps.val (LVal.assign2 rfl rfl) rfl rfl rfl ?_
    | refine LOps.val (LVal.move (.inl rfl)) rfl rfl rfl ?_
    | refine LOps.val (LVal.move (.inr rfl)) rfl rfl rfl ?_
    | refine LOps.out rfl rfl rfl ?_
    | refine LOps.valG (LVal.move1 rfl rfl) rfl rfl rfl ?_
    | refine LOps.valG (LVal.assign1 rfl rfl) rfl rfl rfl ?_
    | refine LOps.valG (LVal.len hD rfl rfl rfl rfl) rfl rfl rfl ?_
    | refine LOps.valG (LVal.lenStr hD rfl rfl rfl rfl) rfl rfl rfl ?_
    | refine LOps.valG (LVal.add64 rfl rfl rfl (by omega)) rfl rfl rfl ?_
    | refine LOps.valG (LVal.sub64 rfl rfl rfl (by omega)) rfl rfl rfl ?_
    | refine LOps.valG (LVal.addU64 rfl rfl rfl (by omega)) rfl rfl rfl ?_
    | refine LOps.valG (LVal.subU64 rfl rfl rfl (by omega)) rfl rfl rfl ?_
    | refine LOps.valG (LVal.mulU64 rfl rfl rfl (by omega)) rfl rfl rfl ?_
    | refine LOps.valG (LVal.remI rfl rfl rfl (by omega)) rfl rfl rfl ?_
    | refine LOps.valG (LVal.quoU64 rfl rfl rfl (by omega)) rfl rfl rfl ?_
    | refine LOps.valG (LVal.quo64 rfl rfl rfl (by omega)) rfl rfl rfl ?_
    | refine LOps.valG (LVal.mul64 rfl rfl rfl (by omega)) rfl rfl rfl ?_
    | refine LOps.valG (LVal.conv64 hD rfl rfl rfl rfl rfl (by omega)) rfl rfl rfl ?_
    | refine LOps.valG (LVal.convU64 hD rfl rfl rfl rfl rfl (by omega)) rfl rfl rfl ?_
    | refine LOps.valG (LVal.neqSame hD rfl rfl rfl) rfl rfl rfl ?_
    | refine LOps.valG (LVal.neqSameB hD rfl rfl rfl rfl rfl) rfl rfl rfl ?_
    | refine LOps.valG (LVal.binOp hD rfl rfl rfl rfl) rfl rfl rfl ?_
    | refine LOps.valG (LVal.unOp rfl rfl rfl) rfl rfl rfl ?_
    | refine LOps.valG (LVal.pick rfl rfl) rfl rfl rfl ?_
    | refine LOps.valG (LVal.extract rfl rfl rfl) rfl rfl rfl ?_
    | refine LOps.valG (LVal.convInt hD rfl rfl rfl rfl rfl) rfl rfl rfl ?_
    | refine LOps.valG (LVal.fieldAddr hD rfl rfl rfl rfl rfl rfl (by decide)) rfl rfl rfl ?_
    | refine LOps.valG (LVal.load hD rfl rfl (by first | assumption | exact box_new _ _ _ | exact box_set _ _ _ | (simp only [box_new, box_set, box_row, box_new_ne, box_set_ne, ne_eq, not_false_eq_true, *]; done) | (simp only [box_new, box_set, box_row, box_new_ne, box_set_ne, ne_eq, not_false_eq_true, *]; rfl)) rfl rfl) rfl rfl rfl ?_
    | refine LOps.valG (LVal.indexMap hD rfl rfl rfl rfl rfl rfl (by first | assumption | omega) rfl) rfl rfl rfl ?_
    | refine LOps.valG (LVal.loadRo hD rfl rfl rfl rfl) rfl rfl rfl ?_
    | refine LOps.valG (LVal.fieldAddrRo hD rfl rfl rfl rfl rfl rfl (by decide)) rfl rfl rfl ?_
    | refine LOps.valG (LVal.field hD rfl rfl rfl rfl rfl rfl rfl) rfl rfl rfl ?_
    | refine LOps.valG (LVal.buildSlice1 hD rfl rfl rfl rfl rfl rfl rfl rfl rfl rfl) rfl rfl rfl ?_
    | refine LOps.valG (LVal.build hD rfl rfl rfl rfl rfl rfl rfl) rfl rfl rfl ?_
    | refine LOps.valG (LVal.buildSlice hD rfl rfl rfl rfl rfl rfl rfl rfl rfl rfl) rfl rfl rfl ?_
    | refine LOps.valG (LVal.takeMap hD rfl rfl rfl rfl rfl rfl (by first | assumption | omega) rfl (fun _ _ => rfl)) rfl rfl rfl ?_
    | refine LOps.valG (LVal.dropMap hD rfl rfl rfl rfl rfl rfl (by first | assumption | omega) rfl (fun _ _ => rfl)) rfl rfl rfl ?_
    | refine LOps.valG (LVal.cutMap hD rfl rfl rfl rfl rfl rfl rfl (by first | assumption | omega) (by first | assumption | omega) rfl (fun _ _ => rfl)) rfl rfl rfl ?_
    | refine LOps.valG (LVal.move2 rfl rfl) rfl rfl rfl ?_
    | refine LOps.valG (LVal.assign2 rfl rfl) rfl rfl rfl ?_
    | refine LOps.valG (LVal.move (.inl rfl)) rfl rfl rfl ?_
    | refine LOps.valG (LVal.move (.inr rfl)) rfl rfl rfl ?_
    | (refine LOps.do0 (LDo.store hD rfl rfl (by first | assumption | exact box_new _ _ _ | exact box_set _ _ _ | (simp only [box_new, box_set, box_row, box_new_ne, box_set_ne, ne_eq, not_false_eq_true, *]; done) | (simp only [box_new, box_set, box_row, box_new_ne, box_set_ne, ne_eq, not_false_eq_true, *]; rfl)) rfl rfl rfl rfl) rfl rfl ?_; rintro _ _ ⟨rfl, rfl⟩))
  refine LWp.cond rfl (fun h => ?_) (fun h => ?_)
  · have hk1 : 1 ≤ k := by have := of_decide_eq_true h; omega
    obtain ⟨k, rfl⟩ : ∃ j, k = j + 1 := ⟨k - 1, by omega⟩
    have hk2 : k < l.length := by omega
    obtain ⟨d, hd⟩ : ∃ d, d = dig (l.drop (k + 1)) := ⟨_, rfl⟩
    have hdk : dig (l.drop k) = l[k] + 16 * d := by rw [List.drop_eq_getElem_cons hk2, hd]; rfl
    have hx16 : l[k] < 16 := by have := List.getElem_mem hk2; exact h16 _ (by rw [← hll]; exact this)
    have hlt : dig (l.drop k) < 1152921504606846976 := by
      have h1 := dig_lt (l.drop k) (fun y hy => by rw [hll] at hy; exact h16 y (List.mem_of_mem_drop hy))
      have h2 : (16 : Nat) ^ (l.drop k).length ≤ 16 ^ 15 := Nat.pow_le_pow_right (by omega) (by rw [List.length_drop]; omega)
      omega
    rw [← hd, show ((k + 1 : Nat) : Int) - 1 = (k : Int) by omega]
    repeat (first
      | refine LOps.nil ?_
      | refine andThen_normal ?_
      | refine andThen_exit ?_
      | refine andThen_ret ?_
      | refine inBlock_normal ?_
      | refine inBlock_ret ?_
      | refine inBlock_here ?_
      | refine inBlock_out rfl ?_
      | refine LWp.seq ?_
      | refine LWp.region ?_
      | refine LWp.block ?_
      | refine LWp.exit ?_
      | refine LWp.ret ?_
      | refine LWp.skip ?_
      | refine LOps.val (LVal.move1 rfl rfl) rfl rfl rfl ?_
      | refine LOps.val (LVal.assign1 rfl rfl) rfl rfl rfl ?_
      | refine LOps.val (LVal.len hD rfl rfl rfl rfl) rfl rfl rfl ?_
      | refine LOps.val (LVal.lenStr hD rfl rfl rfl rfl) rfl rfl rfl ?_
      | refine LOps.val (LVal.add64 rfl rfl rfl (by omega)) rfl rfl rfl ?_
      | refine LOps.val (LVal.sub64 rfl rfl rfl (by omega)) rfl rfl rfl ?_
      | refine LOps.val (LVal.addU64 rfl rfl rfl (by omega)) rfl rfl rfl ?_
      | refine LOps.val (LVal.subU64 rfl rfl rfl (by omega)) rfl rfl rfl ?_
      | refine LOps.val (LVal.mulU64 rfl rfl rfl (by omega)) rfl rfl rfl ?_
      | refine LOps.val (LVal.remI rfl rfl rfl (by omega)) rfl rfl rfl ?_
      | refine LOps.val (LVal.quoU64 rfl rfl rfl (by omega)) rfl rfl rfl ?_
      | refine LOps.val (LVal.quo64 rfl rfl rfl (by omega)) rfl rfl rfl ?_
      | refine LOps.val (LVal.mul64 rfl rfl rfl (by omega)) rfl rfl rfl ?_
      | refine LOps.val (LVal.conv64 hD rfl rfl rfl rfl rfl (by omega)) rfl rfl rfl ?_
      | refine LOps.val (LVal.convU64 hD rfl rfl rfl rfl rfl (by omega)) rfl rfl rfl ?_
      | refine LOps.val (LVal.neqSame hD rfl rfl rfl) rfl rfl rfl ?_
      | refine LOps.val (LVal.neqSameB hD rfl rfl rfl rfl rfl) rfl rfl rfl ?_
      | refine LOps.val (LVal.binOp hD rfl rfl rfl rfl) rfl rfl rfl ?_
      | refine LOps.val (LVal.unOp rfl rfl rfl) rfl rfl rfl ?_
      | refine LOps.val (LVal.pick rfl rfl) rfl rfl rfl ?_
      | refine LOps.val (LVal.extract rfl rfl rfl) rfl rfl rfl ?_
      | refine LOps.val (LVal.convInt hD rfl rfl rfl rfl rfl) rfl rfl rfl ?_
      | refine LOps.val (LVal.fieldAddr hD rfl rfl rfl rfl rfl rfl (by decide)) rfl rfl rfl ?_
      | refine LOps.val (LVal.load hD rfl rfl (by first | assumption | exact box_new _ _ _ | exact box_set _ _ _ | (simp only [box_new, box_set, box_row, box_new_ne, box_set_ne, ne_eq, not_false_eq_true, *]; done) | (simp only [box_new, box_set, box_row, box_new_ne, box_set_ne, ne_eq, not_false_eq_true, *]; rfl)) rfl rfl) rfl rfl rfl ?_
      | refine LOps.val (LVal.indexMap hD rfl rfl rfl rfl rfl rfl (by first | assumption | omega) rfl) rfl rfl rfl ?_
      | refine LOps.val (LVal.loadRo hD rfl rfl rfl rfl) rfl rfl rfl ?_
      | refine LOps.val (LVal.fieldAddrRo hD rfl rfl rfl rfl rfl rfl (by decide)) rfl rfl rfl ?_
      | refine LOps.val (LVal.field hD rfl rfl rfl rfl rfl rfl rfl) rfl rfl rfl ?_
      | refine LOps.val (LVal.buildSlice1 hD rfl rfl rfl rfl rfl rfl rfl rfl rfl rfl) rfl rfl rfl ?_
      | refine LOps.val (LVal.build hD rfl rfl rfl rfl rfl rfl rfl) rfl rfl rfl ?_
      | refine LOps.val (LVal.buildSlice hD rfl rfl rfl rfl rfl rfl rfl rfl rfl rfl) rfl rfl rfl ?_
      | refine LOps.val (LVal.takeMap hD rfl rfl rfl rfl rfl rfl (by first | assumption | omega) rfl (fun _ _ => rfl)) rfl rfl rfl ?_
      | refine LOps.val (LVal.dropMap hD rfl rfl rfl rfl rfl rfl (by first | assumption | omega) rfl (fun _ _ => rfl)) rfl rfl rfl ?_
      | refine LOps.val (LVal.cutMap hD rfl rfl rfl rfl rfl rfl rfl (by first | assumption | omega) (by first | assumption | omega) rfl (fun _ _ => rfl)) rfl rfl rfl ?_
      | refine LOps.val (LVal.move2 rfl rfl) rfl rfl rfl ?_
      | refine LOps.val (LVal.assign2 rfl rfl) rfl rfl rfl ?_
      | refine LOps.val (LVal.move (.inl rfl)) rfl rfl rfl ?_
      | refine LOps.val (LVal.move (.inr rfl)) rfl rfl rfl ?_
      | refine LOps.out rfl rfl rfl ?_
      | refine LOps.valG (LVal.move1 rfl rfl) rfl rfl rfl ?_
      | refine LOps.valG (LVal.assign1 rfl rfl) rfl rfl rfl ?_
      | refine LOps.valG (LVal.len hD rfl rfl rfl rfl) rfl rfl rfl ?_
      | refine LOps.valG (LVal.lenStr hD rfl rfl rfl rfl) rfl rfl rfl ?_
      | refine LOps.valG (LVal.add64 rfl rfl rfl (by omega)) rfl rfl rfl ?_
      | refine LOps.valG (LVal.sub64 rfl rfl rfl (by omega)) rfl rfl rfl ?_
      | refine LOps.valG (LVal.addU64 rfl rfl rfl (by omega)) rfl rfl rfl ?_
      | refine LOps.valG (LVal.subU64 rfl rfl rfl (by omega)) rfl rfl rfl ?_
      | refine LOps.valG (LVal.mulU64 rfl rfl rfl (by omega)) rfl rfl rfl ?_
      | refine LOps.valG (LVal.remI rfl rfl rfl (by omega)) rfl rfl rfl ?_
      | refine LOps.valG (LVal.quoU64 rfl rfl rfl (by omega)) rfl rfl rfl ?_
      | refine LOps.valG (LVal.quo64 rfl rfl rfl (by omega)) rfl rfl rfl ?_
      | refine LOps.valG (LVal.mul64 rfl rfl rfl (by omega)) rfl rfl rfl ?_
      | refine LOps.valG (LVal.conv64 hD rfl rfl rfl rfl rfl (by omega)) rfl rfl rfl ?_
      | refine LOps.valG (LVal.convU64 hD rfl rfl rfl rfl rfl (by omega)) rfl rfl rfl ?_
      | refine LOps.valG (LVal.neqSame hD rfl rfl rfl) rfl rfl rfl ?_
      | refine LOps.valG (LVal.neqSameB hD rfl rfl rfl rfl rfl) rfl rfl rfl ?_
      | refine LOps.valG (LVal.binOp hD rfl rfl rfl rfl) rfl rfl rfl ?_
      | refine LOps.valG (LVal.unOp rfl rfl rfl) rfl rfl rfl ?_
      | refine LOps.valG (LVal.pick rfl rfl) rfl rfl rfl ?_
      | refine LOps.valG (LVal.extract rfl rfl rfl) rfl rfl rfl ?_
      | refine LOps.valG (LVal.convInt hD rfl rfl rfl rfl rfl) rfl rfl rfl ?_
      | refine LOps.valG (LVal.fieldAddr hD rfl rfl rfl rfl rfl rfl (by decide)) rfl rfl rfl ?_
      | refine LOps.valG (LVal.load hD rfl rfl (by first | assumption | exact box_new _ _ _ | exact box_set _ _ _ | (simp only [box_new, box_set, box_row, box_new_ne, box_set_ne, ne_eq, not_false_eq_true, *]; done) | (simp only [box_new, box_set, box_row, box_new_ne, box_set_ne, ne_eq, not_false_eq_true, *]; rfl)) rfl rfl) rfl rfl rfl ?_
      | refine LOps.valG (LVal.indexMap hD rfl rfl rfl rfl rfl rfl (by first | assumption | omega) rfl) rfl rfl rfl ?_
      | refine LOps.valG (LVal.loadRo hD rfl rfl rfl rfl) rfl rfl rfl ?_
      | refine LOps.valG (LVal.fieldAddrRo hD rfl rfl rfl rfl rfl rfl (by decide)) rfl rfl rfl ?_
      | refine LOps.valG (LVal.field hD rfl rfl rfl rfl rfl rfl rfl) rfl rfl rfl ?_
      | refine LOps.valG (LVal.buildSlice1 hD rfl rfl rfl rfl rfl rfl rfl rfl rfl rfl) rfl rfl rfl ?_
      | refine LOps.valG (LVal.build hD rfl rfl rfl rfl rfl rfl rfl) rfl rfl rfl ?_
      | refine LOps.valG (LVal.buildSlice hD rfl rfl rfl rfl rfl rfl rfl rfl rfl rfl) rfl rfl rfl ?_
      | refine LOps.valG (LVal.takeMap hD rfl rfl rfl rfl rfl rfl (by first | assumption | omega) rfl (fun _ _ => rfl)) rfl rfl rfl ?_
      | refine LOps.valG (LVal.dropMap hD rfl rfl rfl rfl rfl rfl (by first | assumption | omega) rfl (fun _ _ => rfl)) rfl rfl rfl ?_
      | refine LOps.valG (LVal.cutMap hD rfl rfl rfl rfl rfl rfl rfl (by first | assumption | omega) (by first | assumption | omega) rfl (fun _ _ => rfl)) rfl rfl rfl ?_
      | refine LOps.valG (LVal.move2 rfl rfl) rfl rfl rfl ?_
      | refine LOps.valG (LVal.assign2 rfl rfl) rfl rfl rfl ?_
      | refine LOps.valG (LVal.move (.inl rfl)) rfl rfl rfl ?_
      | refine LOps.valG (LVal.move (.inr rfl)) rfl rfl rfl ?_
      | (refine LOps.do0 (LDo.store hD rfl rfl (by first | assumption | exact box_new _ _ _ | exact box_set _ _ _ | (simp only [box_new, box_set, box_row, box_new_ne, box_set_ne, ne_eq, not_false_eq_true, *]; done) | (simp only [box_new, box_set, box_row, box_new_ne, box_set_ne, ne_eq, not_false_eq_true, *]; rfl)) rfl rfl rfl rfl) rfl rfl ?_; rintro _ _ ⟨rfl, rfl⟩))
    refine ⟨k, by omega, _, rfl, by omega, holds.over ⟨rfl, rfl, ?_, ?_, trivial⟩⟩
    · rw [hdk]; exact congrArg (fun x => TV.one (LV.v (Value.int .u64 x))) (show (d : Int) * 16 + (l[k] : Nat) = ((l[k] + 16 * d : Nat) : Int) by omega)
    · rfl
  · obtain rfl : k = 0 := by have := of_decide_eq_false h; omega
    have hdl2 : dig l < 1152921504606846976 := hdl
    have hxl : (iList xs).length ≤ 15 := by rw [iList_len]; omega
    rw [List.drop_zero]
    repeat (first
      | refine LOps.nil ?_
      | refine andThen_normal ?_
      | refine andThen_exit ?_
      | refine andThen_ret ?_
      | refine inBlock_normal ?_
      | refine inBlock_ret ?_
      | refine inBlock_here ?_
      | refine inBlock_out rfl ?_
      | refine LWp.seq ?_
      | refine LWp.region ?_
      | refine LWp.block ?_
      | refine LWp.exit ?_
      | refine LWp.ret ?_
      | refine LWp.skip ?_
      | refine LOps.val (LVal.move1 rfl rfl) rfl rfl rfl ?_
      | refine LOps.val (LVal.assign1 rfl rfl) rfl rfl rfl ?_
      | refine LOps.val (LVal.len hD rfl rfl rfl rfl) rfl rfl rfl ?_
      | refine LOps.val (LVal.lenStr hD rfl rfl rfl rfl) rfl rfl rfl ?_
      | refine LOps.val (LVal.add64 rfl rfl rfl (by omega)) rfl rfl rfl ?_
      | refine LOps.val (LVal.sub64 rfl rfl rfl (by omega)) rfl rfl rfl ?_
      | refine LOps.val (LVal.addU64 rfl rfl rfl (by omega)) rfl rfl rfl ?_
      | refine LOps.val (LVal.subU64 rfl rfl rfl (by omega)) rfl rfl rfl ?_
      | refine LOps.val (LVal.mulU64 rfl rfl rfl (by omega)) rfl rfl rfl ?_
      | refine LOps.val (LVal.remI rfl rfl rfl (by omega)) rfl rfl rfl ?_
      | refine LOps.val (LVal.quoU64 rfl rfl rfl (by omega)) rfl rfl rfl ?_
      | refine LOps.val (LVal.quo64 rfl rfl rfl (by omega)) rfl rfl rfl ?_
      | refine LOps.val (LVal.mul64 rfl rfl rfl (by omega)) rfl rfl rfl ?_
      | refine LOps.val (LVal.conv64 hD rfl rfl rfl rfl rfl (by omega)) rfl rfl rfl ?_
      | refine LOps.val (LVal.convU64 hD rfl rfl rfl rfl rfl (by omega)) rfl rfl rfl ?_
      | refine LOps.val (LVal.neqSame hD rfl rfl rfl) rfl rfl rfl ?_
      | refine LOps.val (LVal.neqSameB hD rfl rfl rfl rfl rfl) rfl rfl rfl ?_
      | refine LOps.val (LVal.binOp hD rfl rfl rfl rfl) rfl rfl rfl ?_
      | refine LOps.val (LVal.unOp rfl rfl rfl) rfl rfl rfl ?_
      | refine LOps.val (LVal.pick rfl rfl) rfl rfl rfl ?_
      | refine LOps.val (LVal.extract rfl rfl rfl) rfl rfl rfl ?_
      | refine LOps.val (LVal.convInt hD rfl rfl rfl rfl rfl) rfl rfl rfl ?_
      | refine LOps.val (LVal.fieldAddr hD rfl rfl rfl rfl rfl rfl (by decide)) rfl rfl rfl ?_
      | refine LOps.val (LVal.load hD rfl rfl (by first | assumption | exact box_new _ _ _ | exact box_set _ _ _ | (simp only [box_new, box_set, box_row, box_new_ne, box_set_ne, ne_eq, not_false_eq_true, *]; done) | (simp only [box_new, box_set, box_row, box_new_ne, box_set_ne, ne_eq, not_false_eq_true, *]; rfl)) rfl rfl) rfl rfl rfl ?_
      | refine LOps.val (LVal.indexMap hD rfl rfl rfl rfl rfl rfl (by first | assumption | omega) rfl) rfl rfl rfl ?_
      | refine LOps.val (LVal.loadRo hD rfl rfl rfl rfl) rfl rfl rfl ?_
      | refine LOps.val (LVal.fieldAddrRo hD rfl rfl rfl rfl rfl rfl (by decide)) rfl rfl rfl ?_
      | refine LOps.val (LVal.field hD rfl rfl rfl rfl rfl rfl rfl) rfl rfl rfl ?_
      | refine LOps.val (LVal.buildSlice1 hD rfl rfl rfl rfl rfl rfl rfl rfl rfl rfl) rfl rfl rfl ?_
      | refine LOps.val (LVal.build hD rfl rfl rfl rfl rfl rfl rfl) rfl rfl rfl ?_
      | refine LOps.val (LVal.buildSlice hD rfl rfl rfl rfl rfl rfl rfl rfl rfl rfl) rfl rfl rfl ?_
      | refine LOps.val (LVal.takeMap hD rfl rfl rfl rfl rfl rfl (by first | assumption | omega) rfl (fun _ _ => rfl)) rfl rfl rfl ?_
      | refine LOps.val (LVal.dropMap hD rfl rfl rfl rfl rfl rfl (by first | assumption | omega) rfl (fun _ _ => rfl)) rfl rfl rfl ?_
      | refine LOps.val (LVal.cutMap hD rfl rfl rfl rfl rfl rfl rfl (by first | assumption | omega) (by first | assumption | omega) rfl (fun _ _ => rfl)) rfl rfl rfl ?_
      | refine LOps.val (LVal.move2 rfl rfl) rfl rfl rfl ?_
      | refine LOps.val (LVal.assign2 rfl rfl) rfl rfl rfl ?_
      | refine LOps.val (LVal.move (.inl rfl)) rfl rfl rfl ?_
      | refine LOps.val (LVal.move (.inr rfl)) rfl rfl rfl ?_
      | refine LOps.out rfl rfl rfl ?_
      | refine LOps.valG (LVal.move1 rfl rfl) rfl rfl rfl ?_
      | refine LOps.valG (LVal.assign1 rfl rfl) rfl rfl rfl ?_
      | refine LOps.valG (LVal.len hD rfl rfl rfl rfl) rfl rfl rfl ?_
      | refine LOps.valG (LVal.lenStr hD rfl rfl rfl rfl) rfl rfl rfl ?_
      | refine LOps.valG (LVal.add64 rfl rfl rfl (by omega)) rfl rfl rfl ?_
      | refine LOps.valG (LVal.sub64 rfl rfl rfl (by omega)) rfl rfl rfl ?_
      | refine LOps.valG (LVal.addU64 rfl rfl rfl (by omega)) rfl rfl rfl ?_
      | refine LOps.valG (LVal.subU64 rfl rfl rfl (by omega)) rfl rfl rfl ?_
      | refine LOps.valG (LVal.mulU64 rfl rfl rfl (by omega)) rfl rfl rfl ?_
      | refine LOps.valG (LVal.remI rfl rfl rfl (by omega)) rfl rfl rfl ?_
      | refine LOps.valG (LVal.quoU64 rfl rfl rfl (by omega)) rfl rfl rfl ?_
      | refine LOps.valG (LVal.quo64 rfl rfl rfl (by omega)) rfl rfl rfl ?_
      | refine LOps.valG (LVal.mul64 rfl rfl rfl (by omega)) rfl rfl rfl ?_
      | refine LOps.valG (LVal.conv64 hD rfl rfl rfl rfl rfl (by omega)) rfl rfl rfl ?_
      | refine LOps.valG (LVal.convU64 hD rfl rfl rfl rfl rfl (by omega)) rfl rfl rfl ?_
      | refine LOps.valG (LVal.neqSame hD rfl rfl rfl) rfl rfl rfl ?_
      | refine LOps.valG (LVal.neqSameB hD rfl rfl rfl rfl rfl) rfl rfl rfl ?_
      | refine LOps.valG (LVal.binOp hD rfl rfl rfl rfl) rfl rfl rfl ?_
      | refine LOps.valG (LVal.unOp rfl rfl rfl) rfl rfl rfl ?_
      | refine LOps.valG (LVal.pick rfl rfl) rfl rfl rfl ?_
      | refine LOps.valG (LVal.extract rfl rfl rfl) rfl rfl rfl ?_
      | refine LOps.valG (LVal.convInt hD rfl rfl rfl rfl rfl) rfl rfl rfl ?_
      | refine LOps.valG (LVal.fieldAddr hD rfl rfl rfl rfl rfl rfl (by decide)) rfl rfl rfl ?_
      | refine LOps.valG (LVal.load hD rfl rfl (by first | assumption | exact box_new _ _ _ | exact box_set _ _ _ | (simp only [box_new, box_set, box_row, box_new_ne, box_set_ne, ne_eq, not_false_eq_true, *]; done) | (simp only [box_new, box_set, box_row, box_new_ne, box_set_ne, ne_eq, not_false_eq_true, *]; rfl)) rfl rfl) rfl rfl rfl ?_
      | refine LOps.valG (LVal.indexMap hD rfl rfl rfl rfl rfl rfl (by first | assumption | omega) rfl) rfl rfl rfl ?_
      | refine LOps.valG (LVal.loadRo hD rfl rfl rfl rfl) rfl rfl rfl ?_
      | refine LOps.valG (LVal.fieldAddrRo hD rfl rfl rfl rfl rfl rfl (by decide)) rfl rfl rfl ?_
      | refine LOps.valG (LVal.field hD rfl rfl rfl rfl rfl rfl rfl) rfl rfl rfl ?_
      | refine LOps.valG (LVal.buildSlice1 hD rfl rfl rfl rfl rfl rfl rfl rfl rfl rfl) rfl rfl rfl ?_
      | refine LOps.valG (LVal.build hD rfl rfl rfl rfl rfl rfl rfl) rfl rfl rfl ?_
      | refine LOps.valG (LVal.buildSlice hD rfl rfl rfl rfl rfl rfl rfl rfl rfl rfl) rfl rfl rfl ?_
      | refine LOps.valG (LVal.takeMap hD rfl rfl rfl rfl rfl rfl (by first | assumption | omega) rfl (fun _ _ => rfl)) rfl rfl rfl ?_
      | refine LOps.valG (LVal.dropMap hD rfl rfl rfl rfl rfl rfl (by first | assumption | omega) rfl (fun _ _ => rfl)) rfl rfl rfl ?_
      | refine LOps.valG (LVal.cutMap hD rfl rfl rfl rfl rfl rfl rfl (by first | assumption | omega) (by first | assumption | omega) rfl (fun _ _ => rfl)) rfl rfl rfl ?_
      | refine LOps.valG (LVal.move2 rfl rfl) rfl rfl rfl ?_
      | refine LOps.valG (LVal.assign2 rfl rfl) rfl rfl rfl ?_
      | refine LOps.valG (LVal.move (.inl rfl)) rfl rfl rfl ?_
      | refine LOps.valG (LVal.move (.inr rfl)) rfl rfl rfl ?_
      | (refine LOps.do0 (LDo.store hD rfl rfl (by first | assumption | exact box_new _ _ _ | exact box_set _ _ _ | (simp only [box_new, box_set, box_row, box_new_ne, box_set_ne, ne_eq, not_false_eq_true, *]; done) | (simp only [box_new, box_set, box_row, box_new_ne, box_set_ne, ne_eq, not_false_eq_true, *]; rfl)) rfl rfl rfl rfl) rfl rfl ?_; rintro _ _ ⟨rfl, rfl⟩))
    refine ⟨_, LRes.one rfl, ?_, hle⟩
    rw [hwd]
    exact congrArg (fun x => TV.one (LV.v (Value.int .u64 x))) (show (dig l : Int) * 16 + ((iList xs).length : Nat) = ((xs.length + 16 * dig l : Nat) : Int) by rw [iList_len]; omega)

theorem put_F {G : Ctx} (hP : G.P = Try.prog) (xs ys : List Nat) (hl : xs.length + ys.length = 15) (h16 : ∀ x ∈ xs ++ ys, x < 16) :
    LFun G 25 [.agg [.sl .sh (iList xs), .sl .sh (iList ys)]] (.one (.v (.int .u64 (wd xs.length (xs ++ ys) : Nat)))) := LFun.of (put_L hP xs ys hl h16)
theorem of_F {G : Ctx} (hP : G.P = Try.prog) (p : Nat) (hp : p < 18446744073709551616) : LFun G 18 [.one (.v (.int .u64 p))] (ofR p) := LFun.of (of_L hP p hp)
end Go.Proofs.Ytffeegpjnibdnaa.LF
