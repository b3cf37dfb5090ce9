/- perm over the frame: its contracts, and what a range over All yields. -/
import Derived.Test.YtffeegpjnibdnaaLPd
import Derived.Test.YtffeegpjnibdnaaPermK
set_option linter.unusedVariables false
set_option linter.unusedSimpArgs false
namespace Go.Proofs.Ytffeegpjnibdnaa.LF
open Go.RowKit

theorem calls_same {P : Program} {f : FuncId} {args : Array Value} {w : World} {v : Value} (h : Calls P f args w fun e w' => e = .returned v ∧ w = w') : Calls P f args w fun e w' => e = .returned v ∧ Below w.heap.size w w' :=
  h.mono fun _ _ ⟨h1, h2⟩ => ⟨h1, h2 ▸ Below.refl _ _⟩

theorem right_F {G : Ctx} (hP : G.P = Try.prog) (p : Nat) (hp : p < 18446744073709551616) : LFun G 12 [.one (.v (.int .u64 p))] (.one (.v (.bool (rt (slots p))))) :=
  .flat [.int .u64 p] rfl rfl fun w => by rw [hP]; exact calls_same (right_any p w hp)
theorem len_F {G : Ctx} (hP : G.P = Try.prog) (p : Nat) (hp : p < 18446744073709551616) : LFun G 15 [.one (.v (.int .u64 p))] (.one (iv ((p % 16 : Nat) : Int))) :=
  .flat [.int .u64 p] rfl rfl fun w => by rw [hP]; exact calls_same (len_any p w hp)
theorem empty_F {G : Ctx} (hP : G.P = Try.prog) : LFun G 9 [] (.one (.v (.int .u64 17134975606245761280))) :=
  .flat [] rfl rfl fun w => by
    rw [hP]; exact (empty_any w).mono fun e w' h => by obtain ⟨h1, h2⟩ := h; exact ⟨h1, by first | exact h2 | exact h2 ▸ Below.refl _ _⟩
theorem awake_F {G : Ctx} (hP : G.P = Try.prog) : LFun G 11 [] (.one (.v (.bool true))) :=
  .flat [] rfl rfl fun w => by rw [hP]; exact awake_any w
def atR (p : Nat) (i : Int) : Int := if 0 ≤ i ∧ i < 15 then (nib p i.toNat : Nat) else -1
theorem at_F {G : Ctx} (hP : G.P = Try.prog) (p : Nat) (i : Int) (hp : p < 18446744073709551616) : LFun G 13 [.one (.v (.int .u64 p)), .one (iv i)] (.one (iv (atR p i))) :=
  .flat [.int .u64 p, .int .i64 i] rfl rfl fun w => by
    rw [hP]
    unfold atR
    by_cases h : 0 ≤ i ∧ i < 15
    · rw [if_pos h]
      obtain ⟨k, rfl⟩ : ∃ k : Nat, i = k := ⟨i.toNat, by omega⟩
      exact calls_same (at_in p k w hp (by omega))
    · rw [if_neg h]
      exact calls_same (at_out p i w (by omega))
theorem ins_F {G : Ctx} (hP : G.P = Try.prog) (p : Nat) (i : Int) (hp : p < 18446744073709551616) : LFun G 8 [.one (.v (.int .u64 p)), .one (iv i)] (insR p i) := by
  unfold insR
  by_cases h : rt (slots p) = true ∧ p % 16 < 15 ∧ 0 ≤ i ∧ i ≤ (p % 16 : Nat)
  · rw [if_pos h]
    obtain ⟨k, rfl⟩ : ∃ k : Nat, i = k := ⟨i.toNat, by omega⟩
    exact .flatT [.int .u64 p, .int .i64 k] [.int .u64 (insW p k : Nat), .int .i64 (nib p (p % 16) : Nat), .bool true] rfl rfl fun w => by rw [hP]; exact insert_yes p k w hp ((rt_iff _).1 h.1) h.2.1 (by omega)
  · rw [if_neg h]
    exact .flatT [.int .u64 p, .int .i64 i] [.int .u64 p, .int .i64 (-1), .bool false] rfl rfl fun w => by
      rw [hP]
      refine calls_same (insert_no p i w hp ?_)
      by_cases hr : Rt (slots p)
      · exact .inr (by have h2 : ¬ (p % 16 < 15 ∧ 0 ≤ i ∧ i ≤ (p % 16 : Nat)) := fun h2 => h ⟨rt_yes hr, h2⟩; omega)
      · exact .inl hr
theorem rem_F {G : Ctx} (hP : G.P = Try.prog) (p : Nat) (i : Int) (hp : p < 18446744073709551616) : LFun G 10 [.one (.v (.int .u64 p)), .one (iv i)] (remR p i) := by
  unfold remR
  by_cases h : rt (slots p) = true ∧ 0 ≤ i ∧ i < (p % 16 : Nat)
  · rw [if_pos h]
    obtain ⟨k, rfl⟩ : ∃ k : Nat, i = k := ⟨i.toNat, by omega⟩
    exact .flatT [.int .u64 p, .int .i64 k] [.int .u64 (remW p k : Nat), .int .i64 (nib p k : Nat), .bool true] rfl rfl fun w => by rw [hP]; exact remove_yes p k w hp ((rt_iff _).1 h.1) (by omega)
  · rw [if_neg h]
    exact .flatT [.int .u64 p, .int .i64 i] [.int .u64 p, .int .i64 (-1), .bool false] rfl rfl fun w => by
      rw [hP]
      refine calls_same (remove_no p i w hp ?_)
      by_cases hr : Rt (slots p)
      · exact .inr (by have h2 : ¬ (0 ≤ i ∧ i < (p % 16 : Nat)) := fun h2 => h ⟨rt_yes hr, h2⟩; omega)
      · exact .inl hr

theorem all_L {G : Ctx} (hP : G.P = Try.prog) (p : Nat) (S : LS) :
    LCalls G 17 [.one (.v (.int .u64 p))] (fun r S' => ∃ b, S.fresh b ∧ r = .one (.v (.func (.func 23) #[] #[.pointer (some ⟨b, 0, none⟩)])) ∧ S' = S.newBox b [.v (.int .u64 p)]) S := by
  have hD : TabOK G.P D := by rw [hP]; exact hD0
  refine LCalls.enter (fn := Try.f17) (by rw [hP]; exact Try.func17) rfl rfl ?_
  repeat (first
    | refine LOps.nil ?_
    | refine andThen_normal ?_
    | refine andThen_exit ?_
    | refine andThen_ret ?_
    | refine inBlock_normal ?_
    | refine inBlock_ret ?_
    | refine inBlock_here ?_
    | refine inBlock_out rfl ?_
    | refine LWp.seq ?_
    | refine LWp.region ?_
    | refine LWp.block ?_
    | refine LWp.exit ?_
    | refine LWp.ret ?_
    | refine LWp.skip ?_
    | refine LOps.val (LVal.move1 rfl rfl) rfl rfl rfl ?_
    | refine LOps.val (LVal.assign1 rfl rfl) rfl rfl rfl ?_
    | refine LOps.val (LVal.len hD rfl rfl rfl rfl) rfl rfl rfl ?_
    | refine LOps.val (LVal.lenStr hD rfl rfl rfl rfl) rfl rfl rfl ?_
    | refine LOps.val (LVal.add64 rfl rfl rfl (by omega)) rfl rfl rfl ?_
    | refine LOps.val (LVal.sub64 rfl rfl rfl (by omega)) rfl rfl rfl ?_
    | refine LOps.val (LVal.addU64 rfl rfl rfl (by omega)) rfl rfl rfl ?_
    | refine LOps.val (LVal.subU64 rfl rfl rfl (by omega)) rfl rfl rfl ?_
    | refine LOps.val (LVal.mulU64 rfl rfl rfl (by omega)) rfl rfl rfl ?_
    | refine LOps.val (LVal.remI rfl rfl rfl (by omega)) rfl rfl rfl ?_
    | refine LOps.val (LVal.quoU64 rfl rfl rfl (by omega)) rfl rfl rfl ?_
    | refine LOps.val (LVal.quo64 rfl rfl rfl (by omega)) rfl rfl rfl ?_
    | refine LOps.val (LVal.mul64 rfl rfl rfl (by omega)) rfl rfl rfl ?_
    | refine LOps.val (LVal.conv64 hD rfl rfl rfl rfl rfl (by omega)) rfl rfl rfl ?_
    | refine LOps.val (LVal.convU64 hD rfl rfl rfl rfl rfl (by omega)) rfl rfl rfl ?_
    | refine LOps.val (LVal.neqSame hD rfl rfl rfl) rfl rfl rfl ?_
    | refine LOps.val (LVal.neqSameB hD rfl rfl rfl rfl rfl) rfl rfl rfl ?_
    | refine LOps.val (LVal.binOp hD rfl rfl rfl rfl) rfl rfl rfl ?_
    | refine LOps.val (LVal.unOp rfl rfl rfl) rfl rfl rfl ?_
    | refine LOps.val (LVal.pick rfl rfl) rfl rfl rfl ?_
    | refine LOps.val (LVal.extract rfl rfl rfl) rfl rfl rfl ?_
    | refine LOps.val (LVal.convInt hD rfl rfl rfl rfl rfl) rfl rfl rfl ?_
    | refine LOps.val (LVal.fieldAddr hD rfl rfl rfl rfl rfl rfl (by decide)) rfl rfl rfl ?_
    | refine LOps.val (LVal.load hD rfl rfl (by first | assumption | exact box_new _ _ _ | exact box_set _ _ _ | (simp only [box_new, box_set, box_row, box_new_ne, box_set_ne, ne_eq, not_false_eq_true, *]; done) | (simp only [box_new, box_set, box_row, box_new_ne, box_set_ne, ne_eq, not_false_eq_true, *]; rfl)) rfl rfl) rfl rfl rfl ?_
    | refine LOps.val (LVal.indexMap hD rfl rfl rfl rfl rfl rfl (by first | assumption | omega) rfl) rfl rfl rfl ?_
    | refine LOps.val (LVal.loadRo hD rfl rfl rfl rfl) rfl rfl rfl ?_
    | refine LOps.val (LVal.fieldAddrRo hD rfl rfl rfl rfl rfl rfl (by decide)) rfl rfl rfl ?_
    | refine LOps.val (LVal.field hD rfl rfl rfl rfl rfl rfl rfl) rfl rfl rfl ?_
    | refine LOps.val (LVal.buildSlice1 hD rfl rfl rfl rfl rfl rfl rfl rfl rfl rfl) rfl rfl rfl ?_
    | refine LOps.val (LVal.build hD rfl rfl rfl rfl rfl rfl rfl) rfl rfl rfl ?_
    | refine LOps.val (LVal.buildSlice hD rfl rfl rfl rfl rfl rfl rfl rfl rfl rfl) rfl rfl rfl ?_
    | refine LOps.val (LVal.takeMap hD rfl rfl rfl rfl rfl rfl (by first | assumption | omega) rfl (fun _ _ => rfl)) rfl rfl rfl ?_
    | refine LOps.val (LVal.dropMap hD rfl rfl rfl rfl rfl rfl (by first | assumption | omega) rfl (fun _ _ => rfl)) rfl rfl rfl ?_
    | refine LOps.val (LVal.cutMap hD rfl rfl rfl rfl rfl rfl rfl (by first | assumption | omega) (by first | assumption | omega) rfl (fun _ _ => rfl)) rfl rfl rfl ?_
    | refine LOps.val (LVal.move2 rfl rfl) rfl rfl rfl ?_
    | refine LOps.val (LVal.assign2 rfl rfl) rfl rfl rfl ?_
    | refine LOps.val (LVal.move (.inl rfl)) rfl rfl rfl ?_
    | refine LOps.val (LVal.move (.inr rfl)) rfl rfl rfl ?_
    | refine LOps.out rfl rfl rfl ?_
    | refine LOps.valG (LVal.move1 rfl rfl) rfl rfl rfl ?_
    | refine LOps.valG (LVal.assign1 rfl rfl) rfl rfl rfl ?_
    | refine LOps.valG (LVal.len hD rfl rfl rfl rfl) rfl rfl rfl ?_
    | refine LOps.valG (LVal.lenStr hD rfl rfl rfl rfl) rfl rfl rfl ?_
    | refine LOps.valG (LVal.add64 rfl rfl rfl (by omega)) rfl rfl rfl ?_
    | refine LOps.valG (LVal.sub64 rfl rfl rfl (by omega)) rfl rfl rfl ?_
    | refine LOps.valG (LVal.addU64 rfl rfl rfl (by omega)) rfl rfl rfl ?_
    | refine LOps.valG (LVal.subU64 rfl rfl rfl (by omega)) rfl rfl rfl ?_
    | refine LOps.valG (LVal.mulU64 rfl rfl rfl (by omega)) rfl rfl rfl ?_
    | refine LOps.valG (LVal.remI rfl rfl rfl (by omega)) rfl rfl rfl ?_
    | refine LOps.valG (LVal.quoU64 rfl rfl rfl (by omega)) rfl rfl rfl ?_
    | refine LOps.valG (LVal.quo64 rfl rfl rfl (by omega)) rfl rfl rfl ?_
    | refine LOps.valG (LVal.mul64 rfl rfl rfl (by omega)) rfl rfl rfl ?_
    | refine LOps.valG (LVal.conv64 hD rfl rfl rfl rfl rfl (by omega)) rfl rfl rfl ?_
    | refine LOps.valG (LVal.convU64 hD rfl rfl rfl rfl rfl (by omega)) rfl rfl rfl ?_
    | refine LOps.valG (LVal.neqSame hD rfl rfl rfl) rfl rfl rfl ?_
    | refine LOps.valG (LVal.neqSameB hD rfl rfl rfl rfl rfl) rfl rfl rfl ?_
    | refine LOps.valG (LVal.binOp hD rfl rfl rfl rfl) rfl rfl rfl ?_
    | refine LOps.valG (LVal.unOp rfl rfl rfl) rfl rfl rfl ?_
    | refine LOps.valG (LVal.pick rfl rfl) rfl rfl rfl ?_
    | refine LOps.valG (LVal.extract rfl rfl rfl) rfl rfl rfl ?_
    | refine LOps.valG (LVal.convInt hD rfl rfl rfl rfl rfl) rfl rfl rfl ?_
    | refine LOps.valG (LVal.fieldAddr hD rfl rfl rfl rfl rfl rfl (by decide)) rfl rfl rfl ?_
    | refine LOps.valG (LVal.load hD rfl rfl (by first | assumption | exact box_new _ _ _ | exact box_set _ _ _ | (simp only [box_new, box_set, box_row, box_new_ne, box_set_ne, ne_eq, not_false_eq_true, *]; done) | (simp only [box_new, box_set, box_row, box_new_ne, box_set_ne, ne_eq, not_false_eq_true, *]; rfl)) rfl rfl) rfl rfl rfl ?_
    | refine LOps.valG (LVal.indexMap hD rfl rfl rfl rfl rfl rfl (by first | assumption | omega) rfl) rfl rfl rfl ?_
    | refine LOps.valG (LVal.loadRo hD rfl rfl rfl rfl) rfl rfl rfl ?_
    | refine LOps.valG (LVal.fieldAddrRo hD rfl rfl rfl rfl rfl rfl (by decide)) rfl rfl rfl ?_
    | refine LOps.valG (LVal.field hD rfl rfl rfl rfl rfl rfl rfl) rfl rfl rfl ?_
    | refine LOps.valG (LVal.buildSlice1 hD rfl rfl rfl rfl rfl rfl rfl rfl rfl rfl) rfl rfl rfl ?_
    | refine LOps.valG (LVal.build hD rfl rfl rfl rfl rfl rfl rfl) rfl rfl rfl ?_
    | refine LOps.valG (LVal.buildSlice hD rfl rfl rfl rfl rfl rfl rfl rfl rfl rfl) rfl rfl rfl ?_
    | refine LOps.valG (LVal.takeMap hD rfl rfl rfl rfl rfl rfl (by first | assumption | omega) rfl (fun _ _ => rfl)) rfl rfl rfl ?_
    | refine LOps.valG (LVal.dropMap hD rfl rfl rfl rfl rfl rfl (by first | assumption | omega) rfl (fun _ _ => rfl)) rfl rfl rfl ?_
    | refine LOps.valG (LVal.cutMap hD rfl rfl rfl rfl rfl rfl rfl (by first | assumption | omega) (by first | assumption | omega) rfl (fun _ _ => rfl)) rfl rfl rfl ?_
    | refine LOps.valG (LVal.move2 rfl rfl) rfl rfl rfl ?_
    | refine LOps.valG (LVal.assign2 rfl rfl) rfl rfl rfl ?_
    | refine LOps.valG (LVal.move (.inl rfl)) rfl rfl rfl ?_
    | refine LOps.valG (LVal.move (.inr rfl)) rfl rfl rfl ?_
    | (refine LOps.do0 (LDo.store hD rfl rfl (by first | assumption | exact box_new _ _ _ | exact box_set _ _ _ | (simp only [box_new, box_set, box_row, box_new_ne, box_set_ne, ne_eq, not_false_eq_true, *]; done) | (simp only [box_new, box_set, box_row, box_new_ne, box_set_ne, ne_eq, not_false_eq_true, *]; rfl)) rfl rfl rfl rfl) rfl rfl ?_; rintro _ _ ⟨rfl, rfl⟩))
  refine LOps.do (LDo.box rfl rfl) rfl rfl rfl ?_
  rintro _ _ ⟨b, hb, rfl, rfl⟩
  repeat (first
    | refine LOps.val (LVal.makeFunc rfl (vs := [.pointer (some ⟨b, 0, none⟩)]) rfl) rfl rfl rfl ?_
    | refine LOps.nil ?_
    | refine andThen_normal ?_
    | refine andThen_exit ?_
    | refine andThen_ret ?_
    | refine inBlock_normal ?_
    | refine inBlock_ret ?_
    | refine inBlock_here ?_
    | refine inBlock_out rfl ?_
    | refine LWp.seq ?_
    | refine LWp.region ?_
    | refine LWp.block ?_
    | refine LWp.exit ?_
    | refine LWp.ret ?_
    | refine LWp.skip ?_
    | refine LOps.val (LVal.move1 rfl rfl) rfl rfl rfl ?_
    | refine LOps.val (LVal.assign1 rfl rfl) rfl rfl rfl ?_
    | refine LOps.val (LVal.len hD rfl rfl rfl rfl) rfl rfl rfl ?_
    | refine LOps.val (LVal.lenStr hD rfl rfl rfl rfl) rfl rfl rfl ?_
    | refine LOps.val (LVal.add64 rfl rfl rfl (by omega)) rfl rfl rfl ?_
    | refine LOps.val (LVal.sub64 rfl rfl rfl (by omega)) rfl rfl rfl ?_
    | refine LOps.val (LVal.addU64 rfl rfl rfl (by omega)) rfl rfl rfl ?_
    | refine LOps.val (LVal.subU64 rfl rfl rfl (by omega)) rfl rfl rfl ?_
    | refine LOps.val (LVal.mulU64 rfl rfl rfl (by omega)) rfl rfl rfl ?_
    | refine LOps.val (LVal.remI rfl rfl rfl (by omega)) rfl rfl rfl ?_
    | refine LOps.val (LVal.quoU64 rfl rfl rfl (by omega)) rfl rfl rfl ?_
    | refine LOps.val (LVal.quo64 rfl rfl rfl (by omega)) rfl rfl rfl ?_
    | refine LOps.val (LVal.mul64 rfl rfl rfl (by omega)) rfl rfl rfl ?_
    | refine LOps.val (LVal.conv64 hD rfl rfl rfl rfl rfl (by omega)) rfl rfl rfl ?_
    | refine LOps.val (LVal.convU64 hD rfl rfl rfl rfl rfl (by omega)) rfl rfl rfl ?_
    | refine LOps.val (LVal.neqSame hD rfl rfl rfl) rfl rfl rfl ?_
    | refine LOps.val (LVal.neqSameB hD rfl rfl rfl rfl rfl) rfl rfl rfl ?_
    | refine LOps.val (LVal.binOp hD rfl rfl rfl rfl) rfl rfl rfl ?_
    | refine LOps.val (LVal.unOp rfl rfl rfl) rfl rfl rfl ?_
    | refine LOps.val (LVal.pick rfl rfl) rfl rfl rfl ?_
    | refine LOps.val (LVal.extract rfl rfl rfl) rfl rfl rfl ?_
    | refine LOps.val (LVal.convInt hD rfl rfl rfl rfl rfl) rfl rfl rfl ?_
    | refine LOps.val (LVal.fieldAddr hD rfl rfl rfl rfl rfl rfl (by decide)) rfl rfl rfl ?_
    | refine LOps.val (LVal.load hD rfl rfl (by first | assumption | exact box_new _ _ _ | exact box_set _ _ _ | (simp only [box_new, box_set, box_row, box_new_ne, box_set_ne, ne_eq, not_false_eq_true, *]; done) | (simp only [box_new, box_set, box_row, box_new_ne, box_set_ne, ne_eq, not_false_eq_true, *]; rfl)) rfl rfl) rfl rfl rfl ?_
    | refine LOps.val (LVal.indexMap hD rfl rfl rfl rfl rfl rfl (by first | assumption | omega) rfl) rfl rfl rfl ?_
    | refine LOps.val (LVal.loadRo hD rfl rfl rfl rfl) rfl rfl rfl ?_
    | refine LOps.val (LVal.fieldAddrRo hD rfl rfl rfl rfl rfl rfl (by decide)) rfl rfl rfl ?_
    | refine LOps.val (LVal.field hD rfl rfl rfl rfl rfl rfl rfl) rfl rfl rfl ?_
    | refine LOps.val (LVal.buildSlice1 hD rfl rfl rfl rfl rfl rfl rfl rfl rfl rfl) rfl rfl rfl ?_
    | refine LOps.val (LVal.build hD rfl rfl rfl rfl rfl rfl rfl) rfl rfl rfl ?_
    | refine LOps.val (LVal.buildSlice hD rfl rfl rfl rfl rfl rfl rfl rfl rfl rfl) rfl rfl rfl ?_
    | refine LOps.val (LVal.takeMap hD rfl rfl rfl rfl rfl rfl (by first | assumption | omega) rfl (fun _ _ => rfl)) rfl rfl rfl ?_
    | refine LOps.val (LVal.dropMap hD rfl rfl rfl rfl rfl rfl (by first | assumption | omega) rfl (fun _ _ => rfl)) rfl rfl rfl ?_
    | refine LOps.val (LVal.cutMap hD rfl rfl rfl rfl rfl rfl rfl (by first | assumption | omega) (by first | assumption | omega) rfl (fun _ _ => rfl)) rfl rfl rfl ?_
    | refine LOps.val (LVal.move2 rfl rfl) rfl rfl rfl ?_
    | refine LOps.val (LVal.assign2 rfl rfl) rfl rfl rfl ?_
    | refine LOps.val (LVal.move (.inl rfl)) rfl rfl rfl ?_
    | refine LOps.val (LVal.move (.inr rfl)) rfl rfl rfl ?_
    | refine LOps.out rfl rfl rfl ?_
    | refine LOps.valG (LVal.move1 rfl rfl) rfl rfl rfl ?_
    | refine LOps.valG (LVal.assign1 rfl rfl) rfl rfl rfl ?_
    | refine LOps.valG (LVal.len hD rfl rfl rfl rfl) rfl rfl rfl ?_
    | refine LOps.valG (LVal.lenStr hD rfl rfl rfl rfl) rfl rfl rfl ?_
    | refine LOps.valG (LVal.add64 rfl rfl rfl (by omega)) rfl rfl rfl ?_
    | refine LOps.valG (LVal.sub64 rfl rfl rfl (by omega)) rfl rfl rfl ?_
    | refine LOps.valG (LVal.addU64 rfl rfl rfl (by omega)) rfl rfl rfl ?_
    | refine LOps.valG (LVal.subU64 rfl rfl rfl (by omega)) rfl rfl rfl ?_
    | refine LOps.valG (LVal.mulU64 rfl rfl rfl (by omega)) rfl rfl rfl ?_
    | refine LOps.valG (LVal.remI rfl rfl rfl (by omega)) rfl rfl rfl ?_
    | refine LOps.valG (LVal.quoU64 rfl rfl rfl (by omega)) rfl rfl rfl ?_
    | refine LOps.valG (LVal.quo64 rfl rfl rfl (by omega)) rfl rfl rfl ?_
    | refine LOps.valG (LVal.mul64 rfl rfl rfl (by omega)) rfl rfl rfl ?_
    | refine LOps.valG (LVal.conv64 hD rfl rfl rfl rfl rfl (by omega)) rfl rfl rfl ?_
    | refine LOps.valG (LVal.convU64 hD rfl rfl rfl rfl rfl (by omega)) rfl rfl rfl ?_
    | refine LOps.valG (LVal.neqSame hD rfl rfl rfl) rfl rfl rfl ?_
    | refine LOps.valG (LVal.neqSameB hD rfl rfl rfl rfl rfl) rfl rfl rfl ?_
    | refine LOps.valG (LVal.binOp hD rfl rfl rfl rfl) rfl rfl rfl ?_
    | refine LOps.valG (LVal.unOp rfl rfl rfl) rfl rfl rfl ?_
    | refine LOps.valG (LVal.pick rfl rfl) rfl rfl rfl ?_
    | refine LOps.valG (LVal.extract rfl rfl rfl) rfl rfl rfl ?_
    | refine LOps.valG (LVal.convInt hD rfl rfl rfl rfl rfl) rfl rfl rfl ?_
    | refine LOps.valG (LVal.fieldAddr hD rfl rfl rfl rfl rfl rfl (by decide)) rfl rfl rfl ?_
    | refine LOps.valG (LVal.load hD rfl rfl (by first | assumption | exact box_new _ _ _ | exact box_set _ _ _ | (simp only [box_new, box_set, box_row, box_new_ne, box_set_ne, ne_eq, not_false_eq_true, *]; done) | (simp only [box_new, box_set, box_row, box_new_ne, box_set_ne, ne_eq, not_false_eq_true, *]; rfl)) rfl rfl) rfl rfl rfl ?_
    | refine LOps.valG (LVal.indexMap hD rfl rfl rfl rfl rfl rfl (by first | assumption | omega) rfl) rfl rfl rfl ?_
    | refine LOps.valG (LVal.loadRo hD rfl rfl rfl rfl) rfl rfl rfl ?_
    | refine LOps.valG (LVal.fieldAddrRo hD rfl rfl rfl rfl rfl rfl (by decide)) rfl rfl rfl ?_
    | refine LOps.valG (LVal.field hD rfl rfl rfl rfl rfl rfl rfl) rfl rfl rfl ?_
    | refine LOps.valG (LVal.buildSlice1 hD rfl rfl rfl rfl rfl rfl rfl rfl rfl rfl) rfl rfl rfl ?_
    | refine LOps.valG (LVal.build hD rfl rfl rfl rfl rfl rfl rfl) rfl rfl rfl ?_
    | refine LOps.valG (LVal.buildSlice hD rfl rfl rfl rfl rfl rfl rfl rfl rfl rfl) rfl rfl rfl ?_
    | refine LOps.valG (LVal.takeMap hD rfl rfl rfl rfl rfl rfl (by first | assumption | omega) rfl (fun _ _ => rfl)) rfl rfl rfl ?_
    | refine LOps.valG (LVal.dropMap hD rfl rfl rfl rfl rfl rfl (by first | assumption | omega) rfl (fun _ _ => rfl)) rfl rfl rfl ?_
    | refine LOps.valG (LVal.cutMap hD rfl rfl rfl rfl rfl rfl rfl (by first | assumption | omega) (by first | assumption | omega) rfl (fun _ _ => rfl)) rfl rfl rfl ?_
    | refine LOps.valG (LVal.move2 rfl rfl) rfl rfl rfl ?_
    | refine LOps.valG (LVal.assign2 rfl rfl) rfl rfl rfl ?_
    | refine LOps.valG (LVal.move (.inl rfl)) rfl rfl rfl ?_
    | refine LOps.valG (LVal.move (.inr rfl)) rfl rfl rfl ?_
    | (refine LOps.do0 (LDo.store hD rfl rfl (by first | assumption | exact box_new _ _ _ | exact box_set _ _ _ | (simp only [box_new, box_set, box_row, box_new_ne, box_set_ne, ne_eq, not_false_eq_true, *]; done) | (simp only [box_new, box_set, box_row, box_new_ne, box_set_ne, ne_eq, not_false_eq_true, *]; rfl)) rfl rfl rfl rfl) rfl rfl ?_; rintro _ _ ⟨rfl, rfl⟩))
  exact ⟨_, LRes.one rfl, b, hb, rfl, rfl⟩

/-- How many are in use, if the word is right. -/
def usedN (p : Nat) : Nat := if rt (slots p) then p % 16 else 0
def yields (p : Nat) : List (List TV) := (List.range (usedN p)).map fun k => [.one (iv (k : Nat)), .one (iv (nib p k : Nat))]

theorem all_iter {G : Ctx} (hP : G.P = Try.prog) (p B : Nat) (hp : p < 18446744073709551616) :
    LIter G 23 #[.pointer (some ⟨B, 0, none⟩)] (fun S => S.box B = some [.v (.int .u64 p)]) (yields p) := by
  intro l I Ix S hI hIx hC hY h0
  have hD : TabOK G.P D := by rw [hP]; exact hD0
  have hB := hC 0 S h0
  have hlen : (yields p).length = usedN p := by simp [yields]
  rw [hlen]
  refine LCalls.enter (fn := Try.f23) (by rw [hP]; exact Try.func23) rfl rfl ?_
  repeat (first
    | refine LOps.val (LVal.call rfl rfl (by rw [hP]; exact Try.func12) rfl (by decide) (right_F hP p hp)) rfl rfl rfl ?_
    | refine LOps.nil ?_
    | refine andThen_normal ?_
    | refine andThen_exit ?_
    | refine andThen_ret ?_
    | refine inBlock_normal ?_
    | refine inBlock_ret ?_
    | refine inBlock_here ?_
    | refine inBlock_out rfl ?_
    | refine LWp.seq ?_
    | refine LWp.region ?_
    | refine LWp.block ?_
    | refine LWp.exit ?_
    | refine LWp.ret ?_
    | refine LWp.skip ?_
    | refine LOps.val (LVal.move1 rfl rfl) rfl rfl rfl ?_
    | refine LOps.val (LVal.assign1 rfl rfl) rfl rfl rfl ?_
    | refine LOps.val (LVal.len hD rfl rfl rfl rfl) rfl rfl rfl ?_
    | refine LOps.val (LVal.lenStr hD rfl rfl rfl rfl) rfl rfl rfl ?_
    | refine LOps.val (LVal.add64 rfl rfl rfl (by omega)) rfl rfl rfl ?_
    | refine LOps.val (LVal.sub64 rfl rfl rfl (by omega)) rfl rfl rfl ?_
    | refine LOps.val (LVal.addU64 rfl rfl rfl (by omega)) rfl rfl rfl ?_
    | refine LOps.val (LVal.subU64 rfl rfl rfl (by omega)) rfl rfl rfl ?_
    | refine LOps.val (LVal.mulU64 rfl rfl rfl (by omega)) rfl rfl rfl ?_
    | refine LOps.val (LVal.remI rfl rfl rfl (by omega)) rfl rfl rfl ?_
    | refine LOps.val (LVal.quoU64 rfl rfl rfl (by omega)) rfl rfl rfl ?_
    | refine LOps.val (LVal.quo64 rfl rfl rfl (by omega)) rfl rfl rfl ?_
    | refine LOps.val (LVal.mul64 rfl rfl rfl (by omega)) rfl rfl rfl ?_
    | refine LOps.val (LVal.conv64 hD rfl rfl rfl rfl rfl (by omega)) rfl rfl rfl ?_
    | refine LOps.val (LVal.convU64 hD rfl rfl rfl rfl rfl (by omega)) rfl rfl rfl ?_
    | refine LOps.val (LVal.neqSame hD rfl rfl rfl) rfl rfl rfl ?_
    | refine LOps.val (LVal.neqSameB hD rfl rfl rfl rfl rfl) rfl rfl rfl ?_
    | refine LOps.val (LVal.binOp hD rfl rfl rfl rfl) rfl rfl rfl ?_
    | refine LOps.val (LVal.unOp rfl rfl rfl) rfl rfl rfl ?_
    | refine LOps.val (LVal.pick rfl rfl) rfl rfl rfl ?_
    | refine LOps.val (LVal.extract rfl rfl rfl) rfl rfl rfl ?_
    | refine LOps.val (LVal.convInt hD rfl rfl rfl rfl rfl) rfl rfl rfl ?_
    | refine LOps.val (LVal.fieldAddr hD rfl rfl rfl rfl rfl rfl (by decide)) rfl rfl rfl ?_
    | refine LOps.val (LVal.load hD rfl rfl (by first | assumption | exact box_new _ _ _ | exact box_set _ _ _ | (simp only [box_new, box_set, box_row, box_new_ne, box_set_ne, ne_eq, not_false_eq_true, *]; done) | (simp only [box_new, box_set, box_row, box_new_ne, box_set_ne, ne_eq, not_false_eq_true, *]; rfl)) rfl rfl) rfl rfl rfl ?_
    | refine LOps.val (LVal.indexMap hD rfl rfl rfl rfl rfl rfl (by first | assumption | omega) rfl) rfl rfl rfl ?_
    | refine LOps.val (LVal.loadRo hD rfl rfl rfl rfl) rfl rfl rfl ?_
    | refine LOps.val (LVal.fieldAddrRo hD rfl rfl rfl rfl rfl rfl (by decide)) rfl rfl rfl ?_
    | refine LOps.val (LVal.field hD rfl rfl rfl rfl rfl rfl rfl) rfl rfl rfl ?_
    | refine LOps.val (LVal.buildSlice1 hD rfl rfl rfl rfl rfl rfl rfl rfl rfl rfl) rfl rfl rfl ?_
    | refine LOps.val (LVal.build hD rfl rfl rfl rfl rfl rfl rfl) rfl rfl rfl ?_
    | refine LOps.val (LVal.buildSlice hD rfl rfl rfl rfl rfl rfl rfl rfl rfl rfl) rfl rfl rfl ?_
    | refine LOps.val (LVal.takeMap hD rfl rfl rfl rfl rfl rfl (by first | assumption | omega) rfl (fun _ _ => rfl)) rfl rfl rfl ?_
    | refine LOps.val (LVal.dropMap hD rfl rfl rfl rfl rfl rfl (by first | assumption | omega) rfl (fun _ _ => rfl)) rfl rfl rfl ?_
    | refine LOps.val (LVal.cutMap hD rfl rfl rfl rfl rfl rfl rfl (by first | assumption | omega) (by first | assumption | omega) rfl (fun _ _ => rfl)) rfl rfl rfl ?_
    | refine LOps.val (LVal.move2 rfl rfl) rfl rfl rfl ?_
    | refine LOps.val (LVal.assign2 rfl rfl) rfl rfl rfl ?_
    | refine LOps.val (LVal.move (.inl rfl)) rfl rfl rfl ?_
    | refine LOps.val (LVal.move (.inr rfl)) rfl rfl rfl ?_
    | refine LOps.out rfl rfl rfl ?_
    | refine LOps.valG (LVal.move1 rfl rfl) rfl rfl rfl ?_
    | refine LOps.valG (LVal.assign1 rfl rfl) rfl rfl rfl ?_
    | refine LOps.valG (LVal.len hD rfl rfl rfl rfl) rfl rfl rfl ?_
    | refine LOps.valG (LVal.lenStr hD rfl rfl rfl rfl) rfl rfl rfl ?_
    | refine LOps.valG (LVal.add64 rfl rfl rfl (by omega)) rfl rfl rfl ?_
    | refine LOps.valG (LVal.sub64 rfl rfl rfl (by omega)) rfl rfl rfl ?_
    | refine LOps.valG (LVal.addU64 rfl rfl rfl (by omega)) rfl rfl rfl ?_
    | refine LOps.valG (LVal.subU64 rfl rfl rfl (by omega)) rfl rfl rfl ?_
    | refine LOps.valG (LVal.mulU64 rfl rfl rfl (by omega)) rfl rfl rfl ?_
    | refine LOps.valG (LVal.remI rfl rfl rfl (by omega)) rfl rfl rfl ?_
    | refine LOps.valG (LVal.quoU64 rfl rfl rfl (by omega)) rfl rfl rfl ?_
    | refine LOps.valG (LVal.quo64 rfl rfl rfl (by omega)) rfl rfl rfl ?_
    | refine LOps.valG (LVal.mul64 rfl rfl rfl (by omega)) rfl rfl rfl ?_
    | refine LOps.valG (LVal.conv64 hD rfl rfl rfl rfl rfl (by omega)) rfl rfl rfl ?_
    | refine LOps.valG (LVal.convU64 hD rfl rfl rfl rfl rfl (by omega)) rfl rfl rfl ?_
    | refine LOps.valG (LVal.neqSame hD rfl rfl rfl) rfl rfl rfl ?_
    | refine LOps.valG (LVal.neqSameB hD rfl rfl rfl rfl rfl) rfl rfl rfl ?_
    | refine LOps.valG (LVal.binOp hD rfl rfl rfl rfl) rfl rfl rfl ?_
    | refine LOps.valG (LVal.unOp rfl rfl rfl) rfl rfl rfl ?_
    | refine LOps.valG (LVal.pick rfl rfl) rfl rfl rfl ?_
    | refine LOps.valG (LVal.extract rfl rfl rfl) rfl rfl rfl ?_
    | refine LOps.valG (LVal.convInt hD rfl rfl rfl rfl rfl) rfl rfl rfl ?_
    | refine LOps.valG (LVal.fieldAddr hD rfl rfl rfl rfl rfl rfl (by decide)) rfl rfl rfl ?_
    | refine LOps.valG (LVal.load hD rfl rfl (by first | assumption | exact box_new _ _ _ | exact box_set _ _ _ | (simp only [box_new, box_set, box_row, box_new_ne, box_set_ne, ne_eq, not_false_eq_true, *]; done) | (simp only [box_new, box_set, box_row, box_new_ne, box_set_ne, ne_eq, not_false_eq_true, *]; rfl)) rfl rfl) rfl rfl rfl ?_
    | refine LOps.valG (LVal.indexMap hD rfl rfl rfl rfl rfl rfl (by first | assumption | omega) rfl) rfl rfl rfl ?_
    | refine LOps.valG (LVal.loadRo hD rfl rfl rfl rfl) rfl rfl rfl ?_
    | refine LOps.valG (LVal.fieldAddrRo hD rfl rfl rfl rfl rfl rfl (by decide)) rfl rfl rfl ?_
    | refine LOps.valG (LVal.field hD rfl rfl rfl rfl rfl rfl rfl) rfl rfl rfl ?_
    | refine LOps.valG (LVal.buildSlice1 hD rfl rfl rfl rfl rfl rfl rfl rfl rfl rfl) rfl rfl rfl ?_
    | refine LOps.valG (LVal.build hD rfl rfl rfl rfl rfl rfl rfl) rfl rfl rfl ?_
    | refine LOps.valG (LVal.buildSlice hD rfl rfl rfl rfl rfl rfl rfl rfl rfl rfl) rfl rfl rfl ?_
    | refine LOps.valG (LVal.takeMap hD rfl rfl rfl rfl rfl rfl (by first | assumption | omega) rfl (fun _ _ => rfl)) rfl rfl rfl ?_
    | refine LOps.valG (LVal.dropMap hD rfl rfl rfl rfl rfl rfl (by first | assumption | omega) rfl (fun _ _ => rfl)) rfl rfl rfl ?_
    | refine LOps.valG (LVal.cutMap hD rfl rfl rfl rfl rfl rfl rfl (by first | assumption | omega) (by first | assumption | omega) rfl (fun _ _ => rfl)) rfl rfl rfl ?_
    | refine LOps.valG (LVal.move2 rfl rfl) rfl rfl rfl ?_
    | refine LOps.valG (LVal.assign2 rfl rfl) rfl rfl rfl ?_
    | refine LOps.valG (LVal.move (.inl rfl)) rfl rfl rfl ?_
    | refine LOps.valG (LVal.move (.inr rfl)) rfl rfl rfl ?_
    | (refine LOps.do0 (LDo.store hD rfl rfl (by first | assumption | exact box_new _ _ _ | exact box_set _ _ _ | (simp only [box_new, box_set, box_row, box_new_ne, box_set_ne, ne_eq, not_false_eq_true, *]; done) | (simp only [box_new, box_set, box_row, box_new_ne, box_set_ne, ne_eq, not_false_eq_true, *]; rfl)) rfl rfl rfl rfl) rfl rfl ?_; rintro _ _ ⟨rfl, rfl⟩))
  refine LWp.cond rfl (fun h => ?_) (fun h => ?_)
  · repeat (first
      | refine LOps.nil ?_
      | refine andThen_normal ?_
      | refine andThen_exit ?_
      | refine andThen_ret ?_
      | refine inBlock_normal ?_
      | refine inBlock_ret ?_
      | refine inBlock_here ?_
      | refine inBlock_out rfl ?_
      | refine LWp.seq ?_
      | refine LWp.region ?_
      | refine LWp.block ?_
      | refine LWp.exit ?_
      | refine LWp.ret ?_
      | refine LWp.skip ?_
      | refine LOps.val (LVal.move1 rfl rfl) rfl rfl rfl ?_
      | refine LOps.val (LVal.assign1 rfl rfl) rfl rfl rfl ?_
      | refine LOps.val (LVal.len hD rfl rfl rfl rfl) rfl rfl rfl ?_
      | refine LOps.val (LVal.lenStr hD rfl rfl rfl rfl) rfl rfl rfl ?_
      | refine LOps.val (LVal.add64 rfl rfl rfl (by omega)) rfl rfl rfl ?_
      | refine LOps.val (LVal.sub64 rfl rfl rfl (by omega)) rfl rfl rfl ?_
      | refine LOps.val (LVal.addU64 rfl rfl rfl (by omega)) rfl rfl rfl ?_
      | refine LOps.val (LVal.subU64 rfl rfl rfl (by omega)) rfl rfl rfl ?_
      | refine LOps.val (LVal.mulU64 rfl rfl rfl (by omega)) rfl rfl rfl ?_
      | refine LOps.val (LVal.remI rfl rfl rfl (by omega)) rfl rfl rfl ?_
      | refine LOps.val (LVal.quoU64 rfl rfl rfl (by omega)) rfl rfl rfl ?_
      | refine LOps.val (LVal.quo64 rfl rfl rfl (by omega)) rfl rfl rfl ?_
      | refine LOps.val (LVal.mul64 rfl rfl rfl (by omega)) rfl rfl rfl ?_
      | refine LOps.val (LVal.conv64 hD rfl rfl rfl rfl rfl (by omega)) rfl rfl rfl ?_
      | refine LOps.val (LVal.convU64 hD rfl rfl rfl rfl rfl (by omega)) rfl rfl rfl ?_
      | refine LOps.val (LVal.neqSame hD rfl rfl rfl) rfl rfl rfl ?_
      | refine LOps.val (LVal.neqSameB hD rfl rfl rfl rfl rfl) rfl rfl rfl ?_
      | refine LOps.val (LVal.binOp hD rfl rfl rfl rfl) rfl rfl rfl ?_
      | refine LOps.val (LVal.unOp rfl rfl rfl) rfl rfl rfl ?_
      | refine LOps.val (LVal.pick rfl rfl) rfl rfl rfl ?_
      | refine LOps.val (LVal.extract rfl rfl rfl) rfl rfl rfl ?_
      | refine LOps.val (LVal.convInt hD rfl rfl rfl rfl rfl) rfl rfl rfl ?_
      | refine LOps.val (LVal.fieldAddr hD rfl rfl rfl rfl rfl rfl (by decide)) rfl rfl rfl ?_
      | refine LOps.val (LVal.load hD rfl rfl (by first | assumption | exact box_new _ _ _ | exact box_set _ _ _ | (simp only [box_new, box_set, box_row, box_new_ne, box_set_ne, ne_eq, not_false_eq_true, *]; done) | (simp only [box_new, box_set, box_row, box_new_ne, box_set_ne, ne_eq, not_false_eq_true, *]; rfl)) rfl rfl) rfl rfl rfl ?_
      | refine LOps.val (LVal.indexMap hD rfl rfl rfl rfl rfl rfl (by first | assumption | omega) rfl) rfl rfl rfl ?_
      | refine LOps.val (LVal.loadRo hD rfl rfl rfl rfl) rfl rfl rfl ?_
      | refine LOps.val (LVal.fieldAddrRo hD rfl rfl rfl rfl rfl rfl (by decide)) rfl rfl rfl ?_
      | refine LOps.val (LVal.field hD rfl rfl rfl rfl rfl rfl rfl) rfl rfl rfl ?_
      | refine LOps.val (LVal.buildSlice1 hD rfl rfl rfl rfl rfl rfl rfl rfl rfl rfl) rfl rfl rfl ?_
      | refine LOps.val (LVal.build hD rfl rfl rfl rfl rfl rfl rfl) rfl rfl rfl ?_
      | refine LOps.val (LVal.buildSlice hD rfl rfl rfl rfl rfl rfl rfl rfl rfl rfl) rfl rfl rfl ?_
      | refine LOps.val (LVal.takeMap hD rfl rfl rfl rfl rfl rfl (by first | assumption | omega) rfl (fun _ _ => rfl)) rfl rfl rfl ?_
      | refine LOps.val (LVal.dropMap hD rfl rfl rfl rfl rfl rfl (by first | assumption | omega) rfl (fun _ _ => rfl)) rfl rfl rfl ?_
      | refine LOps.val (LVal.cutMap hD rfl rfl rfl rfl rfl rfl rfl (by first | assumption | omega) (by first | assumption | omega) rfl (fun _ _ => rfl)) rfl rfl rfl ?_
      | refine LOps.val (LVal.move2 rfl rfl) rfl rfl rfl ?_
      | refine LOps.val (LVal.assign2 rfl rfl) rfl rfl rfl ?_
      | refine LOps.val (LVal.move (.inl rfl)) rfl rfl rfl ?_
      | refine LOps.val (LVal.move (.inr rfl)) rfl rfl rfl ?_
      | refine LOps.out rfl rfl rfl ?_
      | refine LOps.valG (LVal.move1 rfl rfl) rfl rfl rfl ?_
      | refine LOps.valG (LVal.assign1 rfl rfl) rfl rfl rfl ?_
      | refine LOps.valG (LVal.len hD rfl rfl rfl rfl) rfl rfl rfl ?_
      | refine LOps.valG (LVal.lenStr hD rfl rfl rfl rfl) rfl rfl rfl ?_
      | refine LOps.valG (LVal.add64 rfl rfl rfl (by omega)) rfl rfl rfl ?_
      | refine LOps.valG (LVal.sub64 rfl rfl rfl (by omega)) rfl rfl rfl ?_
      | refine LOps.valG (LVal.addU64 rfl rfl rfl (by omega)) rfl rfl rfl ?_
      | refine LOps.valG (LVal.subU64 rfl rfl rfl (by omega)) rfl rfl rfl ?_
      | refine LOps.valG (LVal.mulU64 rfl rfl rfl (by omega)) rfl rfl rfl ?_
      | refine LOps.valG (LVal.remI rfl rfl rfl (by omega)) rfl rfl rfl ?_
      | refine LOps.valG (LVal.quoU64 rfl rfl rfl (by omega)) rfl rfl rfl ?_
      | refine LOps.valG (LVal.quo64 rfl rfl rfl (by omega)) rfl rfl rfl ?_
      | refine LOps.valG (LVal.mul64 rfl rfl rfl (by omega)) rfl rfl rfl ?_
      | refine LOps.valG (LVal.conv64 hD rfl rfl rfl rfl rfl (by omega)) rfl rfl rfl ?_
      | refine LOps.valG (LVal.convU64 hD rfl rfl rfl rfl rfl (by omega)) rfl rfl rfl ?_
      | refine LOps.valG (LVal.neqSame hD rfl rfl rfl) rfl rfl rfl ?_
      | refine LOps.valG (LVal.neqSameB hD rfl rfl rfl rfl rfl) rfl rfl rfl ?_
      | refine LOps.valG (LVal.binOp hD rfl rfl rfl rfl) rfl rfl rfl ?_
      | refine LOps.valG (LVal.unOp rfl rfl rfl) rfl rfl rfl ?_
      | refine LOps.valG (LVal.pick rfl rfl) rfl rfl rfl ?_
      | refine LOps.valG (LVal.extract rfl rfl rfl) rfl rfl rfl ?_
      | refine LOps.valG (LVal.convInt hD rfl rfl rfl rfl rfl) rfl rfl rfl ?_
      | refine LOps.valG (LVal.fieldAddr hD rfl rfl rfl rfl rfl rfl (by decide)) rfl rfl rfl ?_
      | refine LOps.valG (LVal.load hD rfl rfl (by first | assumption | exact box_new _ _ _ | exact box_set _ _ _ | (simp only [box_new, box_set, box_row, box_new_ne, box_set_ne, ne_eq, not_false_eq_true, *]; done) | (simp only [box_new, box_set, box_row, box_new_ne, box_set_ne, ne_eq, not_false_eq_true, *]; rfl)) rfl rfl) rfl rfl rfl ?_
      | refine LOps.valG (LVal.indexMap hD rfl rfl rfl rfl rfl rfl (by first | assumption | omega) rfl) rfl rfl rfl ?_
      | refine LOps.valG (LVal.loadRo hD rfl rfl rfl rfl) rfl rfl rfl ?_
      | refine LOps.valG (LVal.fieldAddrRo hD rfl rfl rfl rfl rfl rfl (by decide)) rfl rfl rfl ?_
      | refine LOps.valG (LVal.field hD rfl rfl rfl rfl rfl rfl rfl) rfl rfl rfl ?_
      | refine LOps.valG (LVal.buildSlice1 hD rfl rfl rfl rfl rfl rfl rfl rfl rfl rfl) rfl rfl rfl ?_
      | refine LOps.valG (LVal.build hD rfl rfl rfl rfl rfl rfl rfl) rfl rfl rfl ?_
      | refine LOps.valG (LVal.buildSlice hD rfl rfl rfl rfl rfl rfl rfl rfl rfl rfl) rfl rfl rfl ?_
      | refine LOps.valG (LVal.takeMap hD rfl rfl rfl rfl rfl rfl (by first | assumption | omega) rfl (fun _ _ => rfl)) rfl rfl rfl ?_
      | refine LOps.valG (LVal.dropMap hD rfl rfl rfl rfl rfl rfl (by first | assumption | omega) rfl (fun _ _ => rfl)) rfl rfl rfl ?_
      | refine LOps.valG (LVal.cutMap hD rfl rfl rfl rfl rfl rfl rfl (by first | assumption | omega) (by first | assumption | omega) rfl (fun _ _ => rfl)) rfl rfl rfl ?_
      | refine LOps.valG (LVal.move2 rfl rfl) rfl rfl rfl ?_
      | refine LOps.valG (LVal.assign2 rfl rfl) rfl rfl rfl ?_
      | refine LOps.valG (LVal.move (.inl rfl)) rfl rfl rfl ?_
      | refine LOps.valG (LVal.move (.inr rfl)) rfl rfl rfl ?_
      | (refine LOps.do0 (LDo.store hD rfl rfl (by first | assumption | exact box_new _ _ _ | exact box_set _ _ _ | (simp only [box_new, box_set, box_row, box_new_ne, box_set_ne, ne_eq, not_false_eq_true, *]; done) | (simp only [box_new, box_set, box_row, box_new_ne, box_set_ne, ne_eq, not_false_eq_true, *]; rfl)) rfl rfl rfl rfl) rfl rfl ?_; rintro _ _ ⟨rfl, rfl⟩))
    refine ⟨_, LRes.none rfl, .inl ?_⟩
    have : rt (slots p) = false := by simpa using h
    unfold usedN
    rw [this]; exact h0
  have hr : rt (slots p) = true := by simpa using h
  have hu : usedN p = p % 16 := by unfold usedN; rw [hr]; rfl
  rw [hu] at hlen ⊢
  repeat (first
    | refine LOps.val (LVal.call rfl rfl (by rw [hP]; exact Try.func15) rfl (by decide) (len_F hP p hp)) rfl rfl rfl ?_
    | refine LOps.nil ?_
    | refine andThen_normal ?_
    | refine andThen_exit ?_
    | refine andThen_ret ?_
    | refine inBlock_normal ?_
    | refine inBlock_ret ?_
    | refine inBlock_here ?_
    | refine inBlock_out rfl ?_
    | refine LWp.seq ?_
    | refine LWp.region ?_
    | refine LWp.block ?_
    | refine LWp.exit ?_
    | refine LWp.ret ?_
    | refine LWp.skip ?_
    | refine LOps.val (LVal.move1 rfl rfl) rfl rfl rfl ?_
    | refine LOps.val (LVal.assign1 rfl rfl) rfl rfl rfl ?_
    | refine LOps.val (LVal.len hD rfl rfl rfl rfl) rfl rfl rfl ?_
    | refine LOps.val (LVal.lenStr hD rfl rfl rfl rfl) rfl rfl rfl ?_
    | refine LOps.val (LVal.add64 rfl rfl rfl (by omega)) rfl rfl rfl ?_
    | refine LOps.val (LVal.sub64 rfl rfl rfl (by omega)) rfl rfl rfl ?_
    | refine LOps.val (LVal.addU64 rfl rfl rfl (by omega)) rfl rfl rfl ?_
    | refine LOps.val (LVal.subU64 rfl rfl rfl (by omega)) rfl rfl rfl ?_
    | refine LOps.val (LVal.mulU64 rfl rfl rfl (by omega)) rfl rfl rfl ?_
    | refine LOps.val (LVal.remI rfl rfl rfl (by omega)) rfl rfl rfl ?_
    | refine LOps.val (LVal.quoU64 rfl rfl rfl (by omega)) rfl rfl rfl ?_
    | refine LOps.val (LVal.quo64 rfl rfl rfl (by omega)) rfl rfl rfl ?_
    | refine LOps.val (LVal.mul64 rfl rfl rfl (by omega)) rfl rfl rfl ?_
    | refine LOps.val (LVal.conv64 hD rfl rfl rfl rfl rfl (by omega)) rfl rfl rfl ?_
    | refine LOps.val (LVal.convU64 hD rfl rfl rfl rfl rfl (by omega)) rfl rfl rfl ?_
    | refine LOps.val (LVal.neqSame hD rfl rfl rfl) rfl rfl rfl ?_
    | refine LOps.val (LVal.neqSameB hD rfl rfl rfl rfl rfl) rfl rfl rfl ?_
    | refine LOps.val (LVal.binOp hD rfl rfl rfl rfl) rfl rfl rfl ?_
    | refine LOps.val (LVal.unOp rfl rfl rfl) rfl rfl rfl ?_
    | refine LOps.val (LVal.pick rfl rfl) rfl rfl rfl ?_
    | refine LOps.val (LVal.extract rfl rfl rfl) rfl rfl rfl ?_
    | refine LOps.val (LVal.convInt hD rfl rfl rfl rfl rfl) rfl rfl rfl ?_
    | refine LOps.val (LVal.fieldAddr hD rfl rfl rfl rfl rfl rfl (by decide)) rfl rfl rfl ?_
    | refine LOps.val (LVal.load hD rfl rfl (by first | assumption | exact box_new _ _ _ | exact box_set _ _ _ | (simp only [box_new, box_set, box_row, box_new_ne, box_set_ne, ne_eq, not_false_eq_true, *]; done) | (simp only [box_new, box_set, box_row, box_new_ne, box_set_ne, ne_eq, not_false_eq_true, *]; rfl)) rfl rfl) rfl rfl rfl ?_
    | refine LOps.val (LVal.indexMap hD rfl rfl rfl rfl rfl rfl (by first | assumption | omega) rfl) rfl rfl rfl ?_
    | refine LOps.val (LVal.loadRo hD rfl rfl rfl rfl) rfl rfl rfl ?_
    | refine LOps.val (LVal.fieldAddrRo hD rfl rfl rfl rfl rfl rfl (by decide)) rfl rfl rfl ?_
    | refine LOps.val (LVal.field hD rfl rfl rfl rfl rfl rfl rfl) rfl rfl rfl ?_
    | refine LOps.val (LVal.buildSlice1 hD rfl rfl rfl rfl rfl rfl rfl rfl rfl rfl) rfl rfl rfl ?_
    | refine LOps.val (LVal.build hD rfl rfl rfl rfl rfl rfl rfl) rfl rfl rfl ?_
    | refine LOps.val (LVal.buildSlice hD rfl rfl rfl rfl rfl rfl rfl rfl rfl rfl) rfl rfl rfl ?_
    | refine LOps.val (LVal.takeMap hD rfl rfl rfl rfl rfl rfl (by first | assumption | omega) rfl (fun _ _ => rfl)) rfl rfl rfl ?_
    | refine LOps.val (LVal.dropMap hD rfl rfl rfl rfl rfl rfl (by first | assumption | omega) rfl (fun _ _ => rfl)) rfl rfl rfl ?_
    | refine LOps.val (LVal.cutMap hD rfl rfl rfl rfl rfl rfl rfl (by first | assumption | omega) (by first | assumption | omega) rfl (fun _ _ => rfl)) rfl rfl rfl ?_
    | refine LOps.val (LVal.move2 rfl rfl) rfl rfl rfl ?_
    | refine LOps.val (LVal.assign2 rfl rfl) rfl rfl rfl ?_
    | refine LOps.val (LVal.move (.inl rfl)) rfl rfl rfl ?_
    | refine LOps.val (LVal.move (.inr rfl)) rfl rfl rfl ?_
    | refine LOps.out rfl rfl rfl ?_
    | refine LOps.valG (LVal.move1 rfl rfl) rfl rfl rfl ?_
    | refine LOps.valG (LVal.assign1 rfl rfl) rfl rfl rfl ?_
    | refine LOps.valG (LVal.len hD rfl rfl rfl rfl) rfl rfl rfl ?_
    | refine LOps.valG (LVal.lenStr hD rfl rfl rfl rfl) rfl rfl rfl ?_
    | refine LOps.valG (LVal.add64 rfl rfl rfl (by omega)) rfl rfl rfl ?_
    | refine LOps.valG (LVal.sub64 rfl rfl rfl (by omega)) rfl rfl rfl ?_
    | refine LOps.valG (LVal.addU64 rfl rfl rfl (by omega)) rfl rfl rfl ?_
    | refine LOps.valG (LVal.subU64 rfl rfl rfl (by omega)) rfl rfl rfl ?_
    | refine LOps.valG (LVal.mulU64 rfl rfl rfl (by omega)) rfl rfl rfl ?_
    | refine LOps.valG (LVal.remI rfl rfl rfl (by omega)) rfl rfl rfl ?_
    | refine LOps.valG (LVal.quoU64 rfl rfl rfl (by omega)) rfl rfl rfl ?_
    | refine LOps.valG (LVal.quo64 rfl rfl rfl (by omega)) rfl rfl rfl ?_
    | refine LOps.valG (LVal.mul64 rfl rfl rfl (by omega)) rfl rfl rfl ?_
    | refine LOps.valG (LVal.conv64 hD rfl rfl rfl rfl rfl (by omega)) rfl rfl rfl ?_
    | refine LOps.valG (LVal.convU64 hD rfl rfl rfl rfl rfl (by omega)) rfl rfl rfl ?_
    | refine LOps.valG (LVal.neqSame hD rfl rfl rfl) rfl rfl rfl ?_
    | refine LOps.valG (LVal.neqSameB hD rfl rfl rfl rfl rfl) rfl rfl rfl ?_
    | refine LOps.valG (LVal.binOp hD rfl rfl rfl rfl) rfl rfl rfl ?_
    | refine LOps.valG (LVal.unOp rfl rfl rfl) rfl rfl rfl ?_
    | refine LOps.valG (LVal.pick rfl rfl) rfl rfl rfl ?_
    | refine LOps.valG (LVal.extract rfl rfl rfl) rfl rfl rfl ?_
    | refine LOps.valG (LVal.convInt hD rfl rfl rfl rfl rfl) rfl rfl rfl ?_
    | refine LOps.valG (LVal.fieldAddr hD rfl rfl rfl rfl rfl rfl (by decide)) rfl rfl rfl ?_
    | refine LOps.valG (LVal.load hD rfl rfl (by first | assumption | exact box_new _ _ _ | exact box_set _ _ _ | (simp only [box_new, box_set, box_row, box_new_ne, box_set_ne, ne_eq, not_false_eq_true, *]; done) | (simp only [box_new, box_set, box_row, box_new_ne, box_set_ne, ne_eq, not_false_eq_true, *]; rfl)) rfl rfl) rfl rfl rfl ?_
    | refine LOps.valG (LVal.indexMap hD rfl rfl rfl rfl rfl rfl (by first | assumption | omega) rfl) rfl rfl rfl ?_
    | refine LOps.valG (LVal.loadRo hD rfl rfl rfl rfl) rfl rfl rfl ?_
    | refine LOps.valG (LVal.fieldAddrRo hD rfl rfl rfl rfl rfl rfl (by decide)) rfl rfl rfl ?_
    | refine LOps.valG (LVal.field hD rfl rfl rfl rfl rfl rfl rfl) rfl rfl rfl ?_
    | refine LOps.valG (LVal.buildSlice1 hD rfl rfl rfl rfl rfl rfl rfl rfl rfl rfl) rfl rfl rfl ?_
    | refine LOps.valG (LVal.build hD rfl rfl rfl rfl rfl rfl rfl) rfl rfl rfl ?_
    | refine LOps.valG (LVal.buildSlice hD rfl rfl rfl rfl rfl rfl rfl rfl rfl rfl) rfl rfl rfl ?_
    | refine LOps.valG (LVal.takeMap hD rfl rfl rfl rfl rfl rfl (by first | assumption | omega) rfl (fun _ _ => rfl)) rfl rfl rfl ?_
    | refine LOps.valG (LVal.dropMap hD rfl rfl rfl rfl rfl rfl (by first | assumption | omega) rfl (fun _ _ => rfl)) rfl rfl rfl ?_
    | refine LOps.valG (LVal.cutMap hD rfl rfl rfl rfl rfl rfl rfl (by first | assumption | omega) (by first | assumption | omega) rfl (fun _ _ => rfl)) rfl rfl rfl ?_
    | refine LOps.valG (LVal.move2 rfl rfl) rfl rfl rfl ?_
    | refine LOps.valG (LVal.assign2 rfl rfl) rfl rfl rfl ?_
    | refine LOps.valG (LVal.move (.inl rfl)) rfl rfl rfl ?_
    | refine LOps.valG (LVal.move (.inr rfl)) rfl rfl rfl ?_
    | (refine LOps.do0 (LDo.store hD rfl rfl (by first | assumption | exact box_new _ _ _ | exact box_set _ _ _ | (simp only [box_new, box_set, box_row, box_new_ne, box_set_ne, ne_eq, not_false_eq_true, *]; done) | (simp only [box_new, box_set, box_row, box_new_ne, box_set_ne, ne_eq, not_false_eq_true, *]; rfl)) rfl rfl rfl rfl) rfl rfl ?_; rintro _ _ ⟨rfl, rfl⟩))
  refine LWp.loop (fun m T S' => ∃ T' k, k ≤ p % 16 ∧ m = p % 16 - k ∧ I k S' ∧ T = over T' [(0, .one (.v (.func (.yield l) #[] #[]))), (1, .one (.v (.pointer (some ⟨B, 0, none⟩)))), (8, .one (iv ((p % 16 : Nat) : Int))), (9, .one (iv (k : Nat)))]) (p % 16) ?_ ?_
  · exact ⟨_, 0, by omega, rfl, h0, holds.over ⟨rfl, rfl, rfl, rfl, trivial⟩⟩
  rintro m T S' ⟨T', k, hk, rfl, hIk, rfl⟩
  have hB' := hC k S' hIk
  repeat (first
    | refine LOps.nil ?_
    | refine andThen_normal ?_
    | refine andThen_exit ?_
    | refine andThen_ret ?_
    | refine inBlock_normal ?_
    | refine inBlock_ret ?_
    | refine inBlock_here ?_
    | refine inBlock_out rfl ?_
    | refine LWp.seq ?_
    | refine LWp.region ?_
    | refine LWp.block ?_
    | refine LWp.exit ?_
    | refine LWp.ret ?_
    | refine LWp.skip ?_
    | refine LOps.val (LVal.move1 rfl rfl) rfl rfl rfl ?_
    | refine LOps.val (LVal.assign1 rfl rfl) rfl rfl rfl ?_
    | refine LOps.val (LVal.len hD rfl rfl rfl rfl) rfl rfl rfl ?_
    | refine LOps.val (LVal.lenStr hD rfl rfl rfl rfl) rfl rfl rfl ?_
    | refine LOps.val (LVal.add64 rfl rfl rfl (by omega)) rfl rfl rfl ?_
    | refine LOps.val (LVal.sub64 rfl rfl rfl (by omega)) rfl rfl rfl ?_
    | refine LOps.val (LVal.addU64 rfl rfl rfl (by omega)) rfl rfl rfl ?_
    | refine LOps.val (LVal.subU64 rfl rfl rfl (by omega)) rfl rfl rfl ?_
    | refine LOps.val (LVal.mulU64 rfl rfl rfl (by omega)) rfl rfl rfl ?_
    | refine LOps.val (LVal.remI rfl rfl rfl (by omega)) rfl rfl rfl ?_
    | refine LOps.val (LVal.quoU64 rfl rfl rfl (by omega)) rfl rfl rfl ?_
    | refine LOps.val (LVal.quo64 rfl rfl rfl (by omega)) rfl rfl rfl ?_
    | refine LOps.val (LVal.mul64 rfl rfl rfl (by omega)) rfl rfl rfl ?_
    | refine LOps.val (LVal.conv64 hD rfl rfl rfl rfl rfl (by omega)) rfl rfl rfl ?_
    | refine LOps.val (LVal.convU64 hD rfl rfl rfl rfl rfl (by omega)) rfl rfl rfl ?_
    | refine LOps.val (LVal.neqSame hD rfl rfl rfl) rfl rfl rfl ?_
    | refine LOps.val (LVal.neqSameB hD rfl rfl rfl rfl rfl) rfl rfl rfl ?_
    | refine LOps.val (LVal.binOp hD rfl rfl rfl rfl) rfl rfl rfl ?_
    | refine LOps.val (LVal.unOp rfl rfl rfl) rfl rfl rfl ?_
    | refine LOps.val (LVal.pick rfl rfl) rfl rfl rfl ?_
    | refine LOps.val (LVal.extract rfl rfl rfl) rfl rfl rfl ?_
    | refine LOps.val (LVal.convInt hD rfl rfl rfl rfl rfl) rfl rfl rfl ?_
    | refine LOps.val (LVal.fieldAddr hD rfl rfl rfl rfl rfl rfl (by decide)) rfl rfl rfl ?_
    | refine LOps.val (LVal.load hD rfl rfl (by first | assumption | exact box_new _ _ _ | exact box_set _ _ _ | (simp only [box_new, box_set, box_row, box_new_ne, box_set_ne, ne_eq, not_false_eq_true, *]; done) | (simp only [box_new, box_set, box_row, box_new_ne, box_set_ne, ne_eq, not_false_eq_true, *]; rfl)) rfl rfl) rfl rfl rfl ?_
    | refine LOps.val (LVal.indexMap hD rfl rfl rfl rfl rfl rfl (by first | assumption | omega) rfl) rfl rfl rfl ?_
    | refine LOps.val (LVal.loadRo hD rfl rfl rfl rfl) rfl rfl rfl ?_
    | refine LOps.val (LVal.fieldAddrRo hD rfl rfl rfl rfl rfl rfl (by decide)) rfl rfl rfl ?_
    | refine LOps.val (LVal.field hD rfl rfl rfl rfl rfl rfl rfl) rfl rfl rfl ?_
    | refine LOps.val (LVal.buildSlice1 hD rfl rfl rfl rfl rfl rfl rfl rfl rfl rfl) rfl rfl rfl ?_
    | refine LOps.val (LVal.build hD rfl rfl rfl rfl rfl rfl rfl) rfl rfl rfl ?_
    | refine LOps.val (LVal.buildSlice hD rfl rfl rfl rfl rfl rfl rfl rfl rfl rfl) rfl rfl rfl ?_
    | refine LOps.val (LVal.takeMap hD rfl rfl rfl rfl rfl rfl (by first | assumption | omega) rfl (fun _ _ => rfl)) rfl rfl rfl ?_
    | refine LOps.val (LVal.dropMap hD rfl rfl rfl rfl rfl rfl (by first | assumption | omega) rfl (fun _ _ => rfl)) rfl rfl rfl ?_
    | refine LOps.val (LVal.cutMap hD rfl rfl rfl rfl rfl rfl rfl (by first | assumption | omega) (by first | assumption | omega) rfl (fun _ _ => rfl)) rfl rfl rfl ?_
    | refine LOps.val (LVal.move2 rfl rfl) rfl rfl rfl ?_
    | refine LOps.val (LVal.assign2 rfl rfl) rfl rfl rfl ?_
    | refine LOps.val (LVal.move (.inl rfl)) rfl rfl rfl ?_
    | refine LOps.val (LVal.move (.inr rfl)) rfl rfl rfl ?_
    | refine LOps.out rfl rfl rfl ?_
    | refine LOps.valG (LVal.move1 rfl rfl) rfl rfl rfl ?_
    | refine LOps.valG (LVal.assign1 rfl rfl) rfl rfl rfl ?_
    | refine LOps.valG (LVal.len hD rfl rfl rfl rfl) rfl rfl rfl ?_
    | refine LOps.valG (LVal.lenStr hD rfl rfl rfl rfl) rfl rfl rfl ?_
    | refine LOps.valG (LVal.add64 rfl rfl rfl (by omega)) rfl rfl rfl ?_
    | refine LOps.valG (LVal.sub64 rfl rfl rfl (by omega)) rfl rfl rfl ?_
    | refine LOps.valG (LVal.addU64 rfl rfl rfl (by omega)) rfl rfl rfl ?_
    | refine LOps.valG (LVal.subU64 rfl rfl rfl (by omega)) rfl rfl rfl ?_
    | refine LOps.valG (LVal.mulU64 rfl rfl rfl (by omega)) rfl rfl rfl ?_
    | refine LOps.valG (LVal.remI rfl rfl rfl (by omega)) rfl rfl rfl ?_
    | refine LOps.valG (LVal.quoU64 rfl rfl rfl (by omega)) rfl rfl rfl ?_
    | refine LOps.valG (LVal.quo64 rfl rfl rfl (by omega)) rfl rfl rfl ?_
    | refine LOps.valG (LVal.mul64 rfl rfl rfl (by omega)) rfl rfl rfl ?_
    | refine LOps.valG (LVal.conv64 hD rfl rfl rfl rfl rfl (by omega)) rfl rfl rfl ?_
    | refine LOps.valG (LVal.convU64 hD rfl rfl rfl rfl rfl (by omega)) rfl rfl rfl ?_
    | refine LOps.valG (LVal.neqSame hD rfl rfl rfl) rfl rfl rfl ?_
    | refine LOps.valG (LVal.neqSameB hD rfl rfl rfl rfl rfl) rfl rfl rfl ?_
    | refine LOps.valG (LVal.binOp hD rfl rfl rfl rfl) rfl rfl rfl ?_
    | refine LOps.valG (LVal.unOp rfl rfl rfl) rfl rfl rfl ?_
    | refine LOps.valG (LVal.pick rfl rfl) rfl rfl rfl ?_
    | refine LOps.valG (LVal.extract rfl rfl rfl) rfl rfl rfl ?_
    | refine LOps.valG (LVal.convInt hD rfl rfl rfl rfl rfl) rfl rfl rfl ?_
    | refine LOps.valG (LVal.fieldAddr hD rfl rfl rfl rfl rfl rfl (by decide)) rfl rfl rfl ?_
    | refine LOps.valG (LVal.load hD rfl rfl (by first | assumption | exact box_new _ _ _ | exact box_set _ _ _ | (simp only [box_new, box_set, box_row, box_new_ne, box_set_ne, ne_eq, not_false_eq_true, *]; done) | (simp only [box_new, box_set, box_row, box_new_ne, box_set_ne, ne_eq, not_false_eq_true, *]; rfl)) rfl rfl) rfl rfl rfl ?_
    | refine LOps.valG (LVal.indexMap hD rfl rfl rfl rfl rfl rfl (by first | assumption | omega) rfl) rfl rfl rfl ?_
    | refine LOps.valG (LVal.loadRo hD rfl rfl rfl rfl) rfl rfl rfl ?_
    | refine LOps.valG (LVal.fieldAddrRo hD rfl rfl rfl rfl rfl rfl (by decide)) rfl rfl rfl ?_
    | refine LOps.valG (LVal.field hD rfl rfl rfl rfl rfl rfl rfl) rfl rfl rfl ?_
    | refine LOps.valG (LVal.buildSlice1 hD rfl rfl rfl rfl rfl rfl rfl rfl rfl rfl) rfl rfl rfl ?_
    | refine LOps.valG (LVal.build hD rfl rfl rfl rfl rfl rfl rfl) rfl rfl rfl ?_
    | refine LOps.valG (LVal.buildSlice hD rfl rfl rfl rfl rfl rfl rfl rfl rfl rfl) rfl rfl rfl ?_
    | refine LOps.valG (LVal.takeMap hD rfl rfl rfl rfl rfl rfl (by first | assumption | omega) rfl (fun _ _ => rfl)) rfl rfl rfl ?_
    | refine LOps.valG (LVal.dropMap hD rfl rfl rfl rfl rfl rfl (by first | assumption | omega) rfl (fun _ _ => rfl)) rfl rfl rfl ?_
    | refine LOps.valG (LVal.cutMap hD rfl rfl rfl rfl rfl rfl rfl (by first | assumption | omega) (by first | assumption | omega) rfl (fun _ _ => rfl)) rfl rfl rfl ?_
    | refine LOps.valG (LVal.move2 rfl rfl) rfl rfl rfl ?_
    | refine LOps.valG (LVal.assign2 rfl rfl) rfl rfl rfl ?_
    | refine LOps.valG (LVal.move (.inl rfl)) rfl rfl rfl ?_
    | refine LOps.valG (LVal.move (.inr rfl)) rfl rfl rfl ?_
    | (refine LOps.do0 (LDo.store hD rfl rfl (by first | assumption | exact box_new _ _ _ | exact box_set _ _ _ | (simp only [box_new, box_set, box_row, box_new_ne, box_set_ne, ne_eq, not_false_eq_true, *]; done) | (simp only [box_new, box_set, box_row, box_new_ne, box_set_ne, ne_eq, not_false_eq_true, *]; rfl)) rfl rfl rfl rfl) rfl rfl ?_; rintro _ _ ⟨rfl, rfl⟩))
  refine LWp.cond rfl (fun h => ?_) (fun h => ?_)
  · have hlt : k < p % 16 := by have := of_decide_eq_true h; omega
    have hat : LFun G 13 [.one (.v (.int .u64 p)), .one (iv (k : Nat))] (.one (iv (nib p k : Nat))) := by
      have := at_F hP p (k : Nat) hp
      unfold atR at this
      rwa [if_pos (by omega)] at this
    have hxk : (yields p)[k]? = some [.one (iv (k : Nat)), .one (iv (nib p k : Nat))] := by simp [yields, hu, hlt]
    repeat (first
      | refine LOps.val (LVal.call rfl rfl (by rw [hP]; exact Try.func13) rfl (by decide) hat) rfl rfl rfl ?_
      | refine LOps.nil ?_
      | refine andThen_normal ?_
      | refine andThen_exit ?_
      | refine andThen_ret ?_
      | refine inBlock_normal ?_
      | refine inBlock_ret ?_
      | refine inBlock_here ?_
      | refine inBlock_out rfl ?_
      | refine LWp.seq ?_
      | refine LWp.region ?_
      | refine LWp.block ?_
      | refine LWp.exit ?_
      | refine LWp.ret ?_
      | refine LWp.skip ?_
      | refine LOps.val (LVal.move1 rfl rfl) rfl rfl rfl ?_
      | refine LOps.val (LVal.assign1 rfl rfl) rfl rfl rfl ?_
      | refine LOps.val (LVal.len hD rfl rfl rfl rfl) rfl rfl rfl ?_
      | refine LOps.val (LVal.lenStr hD rfl rfl rfl rfl) rfl rfl rfl ?_
      | refine LOps.val (LVal.add64 rfl rfl rfl (by omega)) rfl rfl rfl ?_
      | refine LOps.val (LVal.sub64 rfl rfl rfl (by omega)) rfl rfl rfl ?_
      | refine LOps.val (LVal.addU64 rfl rfl rfl (by omega)) rfl rfl rfl ?_
      | refine LOps.val (LVal.subU64 rfl rfl rfl (by omega)) rfl rfl rfl ?_
      | refine LOps.val (LVal.mulU64 rfl rfl rfl (by omega)) rfl rfl rfl ?_
      | refine LOps.val (LVal.remI rfl rfl rfl (by omega)) rfl rfl rfl ?_
      | refine LOps.val (LVal.quoU64 rfl rfl rfl (by omega)) rfl rfl rfl ?_
      | refine LOps.val (LVal.quo64 rfl rfl rfl (by omega)) rfl rfl rfl ?_
      | refine LOps.val (LVal.mul64 rfl rfl rfl (by omega)) rfl rfl rfl ?_
      | refine LOps.val (LVal.conv64 hD rfl rfl rfl rfl rfl (by omega)) rfl rfl rfl ?_
      | refine LOps.val (LVal.convU64 hD rfl rfl rfl rfl rfl (by omega)) rfl rfl rfl ?_
      | refine LOps.val (LVal.neqSame hD rfl rfl rfl) rfl rfl rfl ?_
      | refine LOps.val (LVal.neqSameB hD rfl rfl rfl rfl rfl) rfl rfl rfl ?_
      | refine LOps.val (LVal.binOp hD rfl rfl rfl rfl) rfl rfl rfl ?_
      | refine LOps.val (LVal.unOp rfl rfl rfl) rfl rfl rfl ?_
      | refine LOps.val (LVal.pick rfl rfl) rfl rfl rfl ?_
      | refine LOps.val (LVal.extract rfl rfl rfl) rfl rfl rfl ?_
      | refine LOps.val (LVal.convInt hD rfl rfl rfl rfl rfl) rfl rfl rfl ?_
      | refine LOps.val (LVal.fieldAddr hD rfl rfl rfl rfl rfl rfl (by decide)) rfl rfl rfl ?_
      | refine LOps.val (LVal.load hD rfl rfl (by first | assumption | exact box_new _ _ _ | exact box_set _ _ _ | (simp only [box_new, box_set, box_row, box_new_ne, box_set_ne, ne_eq, not_false_eq_true, *]; done) | (simp only [box_new, box_set, box_row, box_new_ne, box_set_ne, ne_eq, not_false_eq_true, *]; rfl)) rfl rfl) rfl rfl rfl ?_
      | refine LOps.val (LVal.indexMap hD rfl rfl rfl rfl rfl rfl (by first | assumption | omega) rfl) rfl rfl rfl ?_
      | refine LOps.val (LVal.loadRo hD rfl rfl rfl rfl) rfl rfl rfl ?_
      | refine LOps.val (LVal.fieldAddrRo hD rfl rfl rfl rfl rfl rfl (by decide)) rfl rfl rfl ?_
      | refine LOps.val (LVal.field hD rfl rfl rfl rfl rfl rfl rfl) rfl rfl rfl ?_
      | refine LOps.val (LVal.buildSlice1 hD rfl rfl rfl rfl rfl rfl rfl rfl rfl rfl) rfl rfl rfl ?_
      | refine LOps.val (LVal.build hD rfl rfl rfl rfl rfl rfl rfl) rfl rfl rfl ?_
      | refine LOps.val (LVal.buildSlice hD rfl rfl rfl rfl rfl rfl rfl rfl rfl rfl) rfl rfl rfl ?_
      | refine LOps.val (LVal.takeMap hD rfl rfl rfl rfl rfl rfl (by first | assumption | omega) rfl (fun _ _ => rfl)) rfl rfl rfl ?_
      | refine LOps.val (LVal.dropMap hD rfl rfl rfl rfl rfl rfl (by first | assumption | omega) rfl (fun _ _ => rfl)) rfl rfl rfl ?_
      | refine LOps.val (LVal.cutMap hD rfl rfl rfl rfl rfl rfl rfl (by first | assumption | omega) (by first | assumption | omega) rfl (fun _ _ => rfl)) rfl rfl rfl ?_
      | refine LOps.val (LVal.move2 rfl rfl) rfl rfl rfl ?_
      | refine LOps.val (LVal.assign2 rfl rfl) rfl rfl rfl ?_
      | refine LOps.val (LVal.move (.inl rfl)) rfl rfl rfl ?_
      | refine LOps.val (LVal.move (.inr rfl)) rfl rfl rfl ?_
      | refine LOps.out rfl rfl rfl ?_
      | refine LOps.valG (LVal.move1 rfl rfl) rfl rfl rfl ?_
      | refine LOps.valG (LVal.assign1 rfl rfl) rfl rfl rfl ?_
      | refine LOps.valG (LVal.len hD rfl rfl rfl rfl) rfl rfl rfl ?_
      | refine LOps.valG (LVal.lenStr hD rfl rfl rfl rfl) rfl rfl rfl ?_
      | refine LOps.valG (LVal.add64 rfl rfl rfl (by omega)) rfl rfl rfl ?_
      | refine LOps.valG (LVal.sub64 rfl rfl rfl (by omega)) rfl rfl rfl ?_
      | refine LOps.valG (LVal.addU64 rfl rfl rfl (by omega)) rfl rfl rfl ?_
      | refine LOps.valG (LVal.subU64 rfl rfl rfl (by omega)) rfl rfl rfl ?_
      | refine LOps.valG (LVal.mulU64 rfl rfl rfl (by omega)) rfl rfl rfl ?_
      | refine LOps.valG (LVal.remI rfl rfl rfl (by omega)) rfl rfl rfl ?_
      | refine LOps.valG (LVal.quoU64 rfl rfl rfl (by omega)) rfl rfl rfl ?_
      | refine LOps.valG (LVal.quo64 rfl rfl rfl (by omega)) rfl rfl rfl ?_
      | refine LOps.valG (LVal.mul64 rfl rfl rfl (by omega)) rfl rfl rfl ?_
      | refine LOps.valG (LVal.conv64 hD rfl rfl rfl rfl rfl (by omega)) rfl rfl rfl ?_
      | refine LOps.valG (LVal.convU64 hD rfl rfl rfl rfl rfl (by omega)) rfl rfl rfl ?_
      | refine LOps.valG (LVal.neqSame hD rfl rfl rfl) rfl rfl rfl ?_
      | refine LOps.valG (LVal.neqSameB hD rfl rfl rfl rfl rfl) rfl rfl rfl ?_
      | refine LOps.valG (LVal.binOp hD rfl rfl rfl rfl) rfl rfl rfl ?_
      | refine LOps.valG (LVal.unOp rfl rfl rfl) rfl rfl rfl ?_
      | refine LOps.valG (LVal.pick rfl rfl) rfl rfl rfl ?_
      | refine LOps.valG (LVal.extract rfl rfl rfl) rfl rfl rfl ?_
      | refine LOps.valG (LVal.convInt hD rfl rfl rfl rfl rfl) rfl rfl rfl ?_
      | refine LOps.valG (LVal.fieldAddr hD rfl rfl rfl rfl rfl rfl (by decide)) rfl rfl rfl ?_
      | refine LOps.valG (LVal.load hD rfl rfl (by first | assumption | exact box_new _ _ _ | exact box_set _ _ _ | (simp only [box_new, box_set, box_row, box_new_ne, box_set_ne, ne_eq, not_false_eq_true, *]; done) | (simp only [box_new, box_set, box_row, box_new_ne, box_set_ne, ne_eq, not_false_eq_true, *]; rfl)) rfl rfl) rfl rfl rfl ?_
      | refine LOps.valG (LVal.indexMap hD rfl rfl rfl rfl rfl rfl (by first | assumption | omega) rfl) rfl rfl rfl ?_
      | refine LOps.valG (LVal.loadRo hD rfl rfl rfl rfl) rfl rfl rfl ?_
      | refine LOps.valG (LVal.fieldAddrRo hD rfl rfl rfl rfl rfl rfl (by decide)) rfl rfl rfl ?_
      | refine LOps.valG (LVal.field hD rfl rfl rfl rfl rfl rfl rfl) rfl rfl rfl ?_
      | refine LOps.valG (LVal.buildSlice1 hD rfl rfl rfl rfl rfl rfl rfl rfl rfl rfl) rfl rfl rfl ?_
      | refine LOps.valG (LVal.build hD rfl rfl rfl rfl rfl rfl rfl) rfl rfl rfl ?_
      | refine LOps.valG (LVal.buildSlice hD rfl rfl rfl rfl rfl rfl rfl rfl rfl rfl) rfl rfl rfl ?_
      | refine LOps.valG (LVal.takeMap hD rfl rfl rfl rfl rfl rfl (by first | assumption | omega) rfl (fun _ _ => rfl)) rfl rfl rfl ?_
      | refine LOps.valG (LVal.dropMap hD rfl rfl rfl rfl rfl rfl (by first | assumption | omega) rfl (fun _ _ => rfl)) rfl rfl rfl ?_
      | refine LOps.valG (LVal.cutMap hD rfl rfl rfl rfl rfl rfl rfl (by first | assumption | omega) (by first | assumption | omega) rfl (fun _ _ => rfl)) rfl rfl rfl ?_
      | refine LOps.valG (LVal.move2 rfl rfl) rfl rfl rfl ?_
      | refine LOps.valG (LVal.assign2 rfl rfl) rfl rfl rfl ?_
      | refine LOps.valG (LVal.move (.inl rfl)) rfl rfl rfl ?_
      | refine LOps.valG (LVal.move (.inr rfl)) rfl rfl rfl ?_
      | (refine LOps.do0 (LDo.store hD rfl rfl (by first | assumption | exact box_new _ _ _ | exact box_set _ _ _ | (simp only [box_new, box_set, box_row, box_new_ne, box_set_ne, ne_eq, not_false_eq_true, *]; done) | (simp only [box_new, box_set, box_row, box_new_ne, box_set_ne, ne_eq, not_false_eq_true, *]; rfl)) rfl rfl rfl rfl) rfl rfl ?_; rintro _ _ ⟨rfl, rfl⟩))
    refine LOps.yield rfl rfl rfl rfl rfl rfl (hY k _ S' hxk hIk) ?_
    rintro r S1 hcase
    repeat (first
      | refine LOps.nil ?_
      | refine andThen_normal ?_
      | refine andThen_exit ?_
      | refine andThen_ret ?_
      | refine inBlock_normal ?_
      | refine inBlock_ret ?_
      | refine inBlock_here ?_
      | refine inBlock_out rfl ?_
      | refine LWp.seq ?_
      | refine LWp.region ?_
      | refine LWp.block ?_
      | refine LWp.exit ?_
      | refine LWp.ret ?_
      | refine LWp.skip ?_
      | refine LOps.val (LVal.move1 rfl rfl) rfl rfl rfl ?_
      | refine LOps.val (LVal.assign1 rfl rfl) rfl rfl rfl ?_
      | refine LOps.val (LVal.len hD rfl rfl rfl rfl) rfl rfl rfl ?_
      | refine LOps.val (LVal.lenStr hD rfl rfl rfl rfl) rfl rfl rfl ?_
      | refine LOps.val (LVal.add64 rfl rfl rfl (by omega)) rfl rfl rfl ?_
      | refine LOps.val (LVal.sub64 rfl rfl rfl (by omega)) rfl rfl rfl ?_
      | refine LOps.val (LVal.addU64 rfl rfl rfl (by omega)) rfl rfl rfl ?_
      | refine LOps.val (LVal.subU64 rfl rfl rfl (by omega)) rfl rfl rfl ?_
      | refine LOps.val (LVal.mulU64 rfl rfl rfl (by omega)) rfl rfl rfl ?_
      | refine LOps.val (LVal.remI rfl rfl rfl (by omega)) rfl rfl rfl ?_
      | refine LOps.val (LVal.quoU64 rfl rfl rfl (by omega)) rfl rfl rfl ?_
      | refine LOps.val (LVal.quo64 rfl rfl rfl (by omega)) rfl rfl rfl ?_
      | refine LOps.val (LVal.mul64 rfl rfl rfl (by omega)) rfl rfl rfl ?_
      | refine LOps.val (LVal.conv64 hD rfl rfl rfl rfl rfl (by omega)) rfl rfl rfl ?_
      | refine LOps.val (LVal.convU64 hD rfl rfl rfl rfl rfl (by omega)) rfl rfl rfl ?_
      | refine LOps.val (LVal.neqSame hD rfl rfl rfl) rfl rfl rfl ?_
      | refine LOps.val (LVal.neqSameB hD rfl rfl rfl rfl rfl) rfl rfl rfl ?_
      | refine LOps.val (LVal.binOp hD rfl rfl rfl rfl) rfl rfl rfl ?_
      | refine LOps.val (LVal.unOp rfl rfl rfl) rfl rfl rfl ?_
      | refine LOps.val (LVal.pick rfl rfl) rfl rfl rfl ?_
      | refine LOps.val (LVal.extract rfl rfl rfl) rfl rfl rfl ?_
      | refine LOps.val (LVal.convInt hD rfl rfl rfl rfl rfl) rfl rfl rfl ?_
      | refine LOps.val (LVal.fieldAddr hD rfl rfl rfl rfl rfl rfl (by decide)) rfl rfl rfl ?_
      | refine LOps.val (LVal.load hD rfl rfl (by first | assumption | exact box_new _ _ _ | exact box_set _ _ _ | (simp only [box_new, box_set, box_row, box_new_ne, box_set_ne, ne_eq, not_false_eq_true, *]; done) | (simp only [box_new, box_set, box_row, box_new_ne, box_set_ne, ne_eq, not_false_eq_true, *]; rfl)) rfl rfl) rfl rfl rfl ?_
      | refine LOps.val (LVal.indexMap hD rfl rfl rfl rfl rfl rfl (by first | assumption | omega) rfl) rfl rfl rfl ?_
      | refine LOps.val (LVal.loadRo hD rfl rfl rfl rfl) rfl rfl rfl ?_
      | refine LOps.val (LVal.fieldAddrRo hD rfl rfl rfl rfl rfl rfl (by decide)) rfl rfl rfl ?_
      | refine LOps.val (LVal.field hD rfl rfl rfl rfl rfl rfl rfl) rfl rfl rfl ?_
      | refine LOps.val (LVal.buildSlice1 hD rfl rfl rfl rfl rfl rfl rfl rfl rfl rfl) rfl rfl rfl ?_
      | refine LOps.val (LVal.build hD rfl rfl rfl rfl rfl rfl rfl) rfl rfl rfl ?_
      | refine LOps.val (LVal.buildSlice hD rfl rfl rfl rfl rfl rfl rfl rfl rfl rfl) rfl rfl rfl ?_
      | refine LOps.val (LVal.takeMap hD rfl rfl rfl rfl rfl rfl (by first | assumption | omega) rfl (fun _ _ => rfl)) rfl rfl rfl ?_
      | refine LOps.val (LVal.dropMap hD rfl rfl rfl rfl rfl rfl (by first | assumption | omega) rfl (fun _ _ => rfl)) rfl rfl rfl ?_
      | refine LOps.val (LVal.cutMap hD rfl rfl rfl rfl rfl rfl rfl (by first | assumption | omega) (by first | assumption | omega) rfl (fun _ _ => rfl)) rfl rfl rfl ?_
      | refine LOps.val (LVal.move2 rfl rfl) rfl rfl rfl ?_
      | refine LOps.val (LVal.assign2 rfl rfl) rfl rfl rfl ?_
      | refine LOps.val (LVal.move (.inl rfl)) rfl rfl rfl ?_
      | refine LOps.val (LVal.move (.inr rfl)) rfl rfl rfl ?_
      | refine LOps.out rfl rfl rfl ?_
      | refine LOps.valG (LVal.move1 rfl rfl) rfl rfl rfl ?_
      | refine LOps.valG (LVal.assign1 rfl rfl) rfl rfl rfl ?_
      | refine LOps.valG (LVal.len hD rfl rfl rfl rfl) rfl rfl rfl ?_
      | refine LOps.valG (LVal.lenStr hD rfl rfl rfl rfl) rfl rfl rfl ?_
      | refine LOps.valG (LVal.add64 rfl rfl rfl (by omega)) rfl rfl rfl ?_
      | refine LOps.valG (LVal.sub64 rfl rfl rfl (by omega)) rfl rfl rfl ?_
      | refine LOps.valG (LVal.addU64 rfl rfl rfl (by omega)) rfl rfl rfl ?_
      | refine LOps.valG (LVal.subU64 rfl rfl rfl (by omega)) rfl rfl rfl ?_
      | refine LOps.valG (LVal.mulU64 rfl rfl rfl (by omega)) rfl rfl rfl ?_
      | refine LOps.valG (LVal.remI rfl rfl rfl (by omega)) rfl rfl rfl ?_
      | refine LOps.valG (LVal.quoU64 rfl rfl rfl (by omega)) rfl rfl rfl ?_
      | refine LOps.valG (LVal.quo64 rfl rfl rfl (by omega)) rfl rfl rfl ?_
      | refine LOps.valG (LVal.mul64 rfl rfl rfl (by omega)) rfl rfl rfl ?_
      | refine LOps.valG (LVal.conv64 hD rfl rfl rfl rfl rfl (by omega)) rfl rfl rfl ?_
      | refine LOps.valG (LVal.convU64 hD rfl rfl rfl rfl rfl (by omega)) rfl rfl rfl ?_
      | refine LOps.valG (LVal.neqSame hD rfl rfl rfl) rfl rfl rfl ?_
      | refine LOps.valG (LVal.neqSameB hD rfl rfl rfl rfl rfl) rfl rfl rfl ?_
      | refine LOps.valG (LVal.binOp hD rfl rfl rfl rfl) rfl rfl rfl ?_
      | refine LOps.valG (LVal.unOp rfl rfl rfl) rfl rfl rfl ?_
      | refine LOps.valG (LVal.pick rfl rfl) rfl rfl rfl ?_
      | refine LOps.valG (LVal.extract rfl rfl rfl) rfl rfl rfl ?_
      | refine LOps.valG (LVal.convInt hD rfl rfl rfl rfl rfl) rfl rfl rfl ?_
      | refine LOps.valG (LVal.fieldAddr hD rfl rfl rfl rfl rfl rfl (by decide)) rfl rfl rfl ?_
      | refine LOps.valG (LVal.load hD rfl rfl (by first | assumption | exact box_new _ _ _ | exact box_set _ _ _ | (simp only [box_new, box_set, box_row, box_new_ne, box_set_ne, ne_eq, not_false_eq_true, *]; done) | (simp only [box_new, box_set, box_row, box_new_ne, box_set_ne, ne_eq, not_false_eq_true, *]; rfl)) rfl rfl) rfl rfl rfl ?_
      | refine LOps.valG (LVal.indexMap hD rfl rfl rfl rfl rfl rfl (by first | assumption | omega) rfl) rfl rfl rfl ?_
      | refine LOps.valG (LVal.loadRo hD rfl rfl rfl rfl) rfl rfl rfl ?_
      | refine LOps.valG (LVal.fieldAddrRo hD rfl rfl rfl rfl rfl rfl (by decide)) rfl rfl rfl ?_
      | refine LOps.valG (LVal.field hD rfl rfl rfl rfl rfl rfl rfl) rfl rfl rfl ?_
      | refine LOps.valG (LVal.buildSlice1 hD rfl rfl rfl rfl rfl rfl rfl rfl rfl rfl) rfl rfl rfl ?_
      | refine LOps.valG (LVal.build hD rfl rfl rfl rfl rfl rfl rfl) rfl rfl rfl ?_
      | refine LOps.valG (LVal.buildSlice hD rfl rfl rfl rfl rfl rfl rfl rfl rfl rfl) rfl rfl rfl ?_
      | refine LOps.valG (LVal.takeMap hD rfl rfl rfl rfl rfl rfl (by first | assumption | omega) rfl (fun _ _ => rfl)) rfl rfl rfl ?_
      | refine LOps.valG (LVal.dropMap hD rfl rfl rfl rfl rfl rfl (by first | assumption | omega) rfl (fun _ _ => rfl)) rfl rfl rfl ?_
      | refine LOps.valG (LVal.cutMap hD rfl rfl rfl rfl rfl rfl rfl (by first | assumption | omega) (by first | assumption | omega) rfl (fun _ _ => rfl)) rfl rfl rfl ?_
      | refine LOps.valG (LVal.move2 rfl rfl) rfl rfl rfl ?_
      | refine LOps.valG (LVal.assign2 rfl rfl) rfl rfl rfl ?_
      | refine LOps.valG (LVal.move (.inl rfl)) rfl rfl rfl ?_
      | refine LOps.valG (LVal.move (.inr rfl)) rfl rfl rfl ?_
      | (refine LOps.do0 (LDo.store hD rfl rfl (by first | assumption | exact box_new _ _ _ | exact box_set _ _ _ | (simp only [box_new, box_set, box_row, box_new_ne, box_set_ne, ne_eq, not_false_eq_true, *]; done) | (simp only [box_new, box_set, box_row, box_new_ne, box_set_ne, ne_eq, not_false_eq_true, *]; rfl)) rfl rfl rfl rfl) rfl rfl ?_; rintro _ _ ⟨rfl, rfl⟩))
    refine LWp.cond rfl (fun h => ?_) (fun h => ?_)
    · repeat (first
        | refine LOps.nil ?_
        | refine andThen_normal ?_
        | refine andThen_exit ?_
        | refine andThen_ret ?_
        | refine inBlock_normal ?_
        | refine inBlock_ret ?_
        | refine inBlock_here ?_
        | refine inBlock_out rfl ?_
        | refine LWp.seq ?_
        | refine LWp.region ?_
        | refine LWp.block ?_
        | refine LWp.exit ?_
        | refine LWp.ret ?_
        | refine LWp.skip ?_
        | refine LOps.val (LVal.move1 rfl rfl) rfl rfl rfl ?_
        | refine LOps.val (LVal.assign1 rfl rfl) rfl rfl rfl ?_
        | refine LOps.val (LVal.len hD rfl rfl rfl rfl) rfl rfl rfl ?_
        | refine LOps.val (LVal.lenStr hD rfl rfl rfl rfl) rfl rfl rfl ?_
        | refine LOps.val (LVal.add64 rfl rfl rfl (by omega)) rfl rfl rfl ?_
        | refine LOps.val (LVal.sub64 rfl rfl rfl (by omega)) rfl rfl rfl ?_
        | refine LOps.val (LVal.addU64 rfl rfl rfl (by omega)) rfl rfl rfl ?_
        | refine LOps.val (LVal.subU64 rfl rfl rfl (by omega)) rfl rfl rfl ?_
        | refine LOps.val (LVal.mulU64 rfl rfl rfl (by omega)) rfl rfl rfl ?_
        | refine LOps.val (LVal.remI rfl rfl rfl (by omega)) rfl rfl rfl ?_
        | refine LOps.val (LVal.quoU64 rfl rfl rfl (by omega)) rfl rfl rfl ?_
        | refine LOps.val (LVal.quo64 rfl rfl rfl (by omega)) rfl rfl rfl ?_
        | refine LOps.val (LVal.mul64 rfl rfl rfl (by omega)) rfl rfl rfl ?_
        | refine LOps.val (LVal.conv64 hD rfl rfl rfl rfl rfl (by omega)) rfl rfl rfl ?_
        | refine LOps.val (LVal.convU64 hD rfl rfl rfl rfl rfl (by omega)) rfl rfl rfl ?_
        | refine LOps.val (LVal.neqSame hD rfl rfl rfl) rfl rfl rfl ?_
        | refine LOps.val (LVal.neqSameB hD rfl rfl rfl rfl rfl) rfl rfl rfl ?_
        | refine LOps.val (LVal.binOp hD rfl rfl rfl rfl) rfl rfl rfl ?_
        | refine LOps.val (LVal.unOp rfl rfl rfl) rfl rfl rfl ?_
        | refine LOps.val (LVal.pick rfl rfl) rfl rfl rfl ?_
        | refine LOps.val (LVal.extract rfl rfl rfl) rfl rfl rfl ?_
        | refine LOps.val (LVal.convInt hD rfl rfl rfl rfl rfl) rfl rfl rfl ?_
        | refine LOps.val (LVal.fieldAddr hD rfl rfl rfl rfl rfl rfl (by decide)) rfl rfl rfl ?_
        | refine LOps.val (LVal.load hD rfl rfl (by first | assumption | exact box_new _ _ _ | exact box_set _ _ _ | (simp only [box_new, box_set, box_row, box_new_ne, box_set_ne, ne_eq, not_false_eq_true, *]; done) | (simp only [box_new, box_set, box_row, box_new_ne, box_set_ne, ne_eq, not_false_eq_true, *]; rfl)) rfl rfl) rfl rfl rfl ?_
        | refine LOps.val (LVal.indexMap hD rfl rfl rfl rfl rfl rfl (by first | assumption | omega) rfl) rfl rfl rfl ?_
        | refine LOps.val (LVal.loadRo hD rfl rfl rfl rfl) rfl rfl rfl ?_
        | refine LOps.val (LVal.fieldAddrRo hD rfl rfl rfl rfl rfl rfl (by decide)) rfl rfl rfl ?_
        | refine LOps.val (LVal.field hD rfl rfl rfl rfl rfl rfl rfl) rfl rfl rfl ?_
        | refine LOps.val (LVal.buildSlice1 hD rfl rfl rfl rfl rfl rfl rfl rfl rfl rfl) rfl rfl rfl ?_
        | refine LOps.val (LVal.build hD rfl rfl rfl rfl rfl rfl rfl) rfl rfl rfl ?_
        | refine LOps.val (LVal.buildSlice hD rfl rfl rfl rfl rfl rfl rfl rfl rfl rfl) rfl rfl rfl ?_
        | refine LOps.val (LVal.takeMap hD rfl rfl rfl rfl rfl rfl (by first | assumption | omega) rfl (fun _ _ => rfl)) rfl rfl rfl ?_
        | refine LOps.val (LVal.dropMap hD rfl rfl rfl rfl rfl rfl (by first | assumption | omega) rfl (fun _ _ => rfl)) rfl rfl rfl ?_
        | refine LOps.val (LVal.cutMap hD rfl rfl rfl rfl rfl rfl rfl (by first | assumption | omega) (by first | assumption | omega) rfl (fun _ _ => rfl)) rfl rfl rfl ?_
        | refine LOps.val (LVal.move2 rfl rfl) rfl rfl rfl ?_
        | refine LOps.val (LVal.assign2 rfl rfl) rfl rfl rfl ?_
        | refine LOps.val (LVal.move (.inl rfl)) rfl rfl rfl ?_
        | refine LOps.val (LVal.move (.inr rfl)) rfl rfl rfl ?_
        | refine LOps.out rfl rfl rfl ?_
        | refine LOps.valG (LVal.move1 rfl rfl) rfl rfl rfl ?_
        | refine LOps.valG (LVal.assign1 rfl rfl) rfl rfl rfl ?_
        | refine LOps.valG (LVal.len hD rfl rfl rfl rfl) rfl rfl rfl ?_
        | refine LOps.valG (LVal.lenStr hD rfl rfl rfl rfl) rfl rfl rfl ?_
        | refine LOps.valG (LVal.add64 rfl rfl rfl (by omega)) rfl rfl rfl ?_
        | refine LOps.valG (LVal.sub64 rfl rfl rfl (by omega)) rfl rfl rfl ?_
        | refine LOps.valG (LVal.addU64 rfl rfl rfl (by omega)) rfl rfl rfl ?_
        | refine LOps.valG (LVal.subU64 rfl rfl rfl (by omega)) rfl rfl rfl ?_
        | refine LOps.valG (LVal.mulU64 rfl rfl rfl (by omega)) rfl rfl rfl ?_
        | refine LOps.valG (LVal.remI rfl rfl rfl (by omega)) rfl rfl rfl ?_
        | refine LOps.valG (LVal.quoU64 rfl rfl rfl (by omega)) rfl rfl rfl ?_
        | refine LOps.valG (LVal.quo64 rfl rfl rfl (by omega)) rfl rfl rfl ?_
        | refine LOps.valG (LVal.mul64 rfl rfl rfl (by omega)) rfl rfl rfl ?_
        | refine LOps.valG (LVal.conv64 hD rfl rfl rfl rfl rfl (by omega)) rfl rfl rfl ?_
        | refine LOps.valG (LVal.convU64 hD rfl rfl rfl rfl rfl (by omega)) rfl rfl rfl ?_
        | refine LOps.valG (LVal.neqSame hD rfl rfl rfl) rfl rfl rfl ?_
        | refine LOps.valG (LVal.neqSameB hD rfl rfl rfl rfl rfl) rfl rfl rfl ?_
        | refine LOps.valG (LVal.binOp hD rfl rfl rfl rfl) rfl rfl rfl ?_
        | refine LOps.valG (LVal.unOp rfl rfl rfl) rfl rfl rfl ?_
        | refine LOps.valG (LVal.pick rfl rfl) rfl rfl rfl ?_
        | refine LOps.valG (LVal.extract rfl rfl rfl) rfl rfl rfl ?_
        | refine LOps.valG (LVal.convInt hD rfl rfl rfl rfl rfl) rfl rfl rfl ?_
        | refine LOps.valG (LVal.fieldAddr hD rfl rfl rfl rfl rfl rfl (by decide)) rfl rfl rfl ?_
        | refine LOps.valG (LVal.load hD rfl rfl (by first | assumption | exact box_new _ _ _ | exact box_set _ _ _ | (simp only [box_new, box_set, box_row, box_new_ne, box_set_ne, ne_eq, not_false_eq_true, *]; done) | (simp only [box_new, box_set, box_row, box_new_ne, box_set_ne, ne_eq, not_false_eq_true, *]; rfl)) rfl rfl) rfl rfl rfl ?_
        | refine LOps.valG (LVal.indexMap hD rfl rfl rfl rfl rfl rfl (by first | assumption | omega) rfl) rfl rfl rfl ?_
        | refine LOps.valG (LVal.loadRo hD rfl rfl rfl rfl) rfl rfl rfl ?_
        | refine LOps.valG (LVal.fieldAddrRo hD rfl rfl rfl rfl rfl rfl (by decide)) rfl rfl rfl ?_
        | refine LOps.valG (LVal.field hD rfl rfl rfl rfl rfl rfl rfl) rfl rfl rfl ?_
        | refine LOps.valG (LVal.buildSlice1 hD rfl rfl rfl rfl rfl rfl rfl rfl rfl rfl) rfl rfl rfl ?_
        | refine LOps.valG (LVal.build hD rfl rfl rfl rfl rfl rfl rfl) rfl rfl rfl ?_
        | refine LOps.valG (LVal.buildSlice hD rfl rfl rfl rfl rfl rfl rfl rfl rfl rfl) rfl rfl rfl ?_
        | refine LOps.valG (LVal.takeMap hD rfl rfl rfl rfl rfl rfl (by first | assumption | omega) rfl (fun _ _ => rfl)) rfl rfl rfl ?_
        | refine LOps.valG (LVal.dropMap hD rfl rfl rfl rfl rfl rfl (by first | assumption | omega) rfl (fun _ _ => rfl)) rfl rfl rfl ?_
        | refine LOps.valG (LVal.cutMap hD rfl rfl rfl rfl rfl rfl rfl (by first | assumption | omega) (by first | assumption | omega) rfl (fun _ _ => rfl)) rfl rfl rfl ?_
        | refine LOps.valG (LVal.move2 rfl rfl) rfl rfl rfl ?_
        | refine LOps.valG (LVal.assign2 rfl rfl) rfl rfl rfl ?_
        | refine LOps.valG (LVal.move (.inl rfl)) rfl rfl rfl ?_
        | refine LOps.valG (LVal.move (.inr rfl)) rfl rfl rfl ?_
        | (refine LOps.do0 (LDo.store hD rfl rfl (by first | assumption | exact box_new _ _ _ | exact box_set _ _ _ | (simp only [box_new, box_set, box_row, box_new_ne, box_set_ne, ne_eq, not_false_eq_true, *]; done) | (simp only [box_new, box_set, box_row, box_new_ne, box_set_ne, ne_eq, not_false_eq_true, *]; rfl)) rfl rfl rfl rfl) rfl rfl ?_; rintro _ _ ⟨rfl, rfl⟩))
      refine ⟨_, LRes.none rfl, .inr ⟨k + 1, by omega, ?_⟩⟩
      rcases hcase with ⟨rfl, _⟩ | ⟨_, h2⟩
      · simp at h
      · exact h2
    · repeat (first
        | refine LOps.nil ?_
        | refine andThen_normal ?_
        | refine andThen_exit ?_
        | refine andThen_ret ?_
        | refine inBlock_normal ?_
        | refine inBlock_ret ?_
        | refine inBlock_here ?_
        | refine inBlock_out rfl ?_
        | refine LWp.seq ?_
        | refine LWp.region ?_
        | refine LWp.block ?_
        | refine LWp.exit ?_
        | refine LWp.ret ?_
        | refine LWp.skip ?_
        | refine LOps.val (LVal.move1 rfl rfl) rfl rfl rfl ?_
        | refine LOps.val (LVal.assign1 rfl rfl) rfl rfl rfl ?_
        | refine LOps.val (LVal.len hD rfl rfl rfl rfl) rfl rfl rfl ?_
        | refine LOps.val (LVal.lenStr hD rfl rfl rfl rfl) rfl rfl rfl ?_
        | refine LOps.val (LVal.add64 rfl rfl rfl (by omega)) rfl rfl rfl ?_
        | refine LOps.val (LVal.sub64 rfl rfl rfl (by omega)) rfl rfl rfl ?_
        | refine LOps.val (LVal.addU64 rfl rfl rfl (by omega)) rfl rfl rfl ?_
        | refine LOps.val (LVal.subU64 rfl rfl rfl (by omega)) rfl rfl rfl ?_
        | refine LOps.val (LVal.mulU64 rfl rfl rfl (by omega)) rfl rfl rfl ?_
        | refine LOps.val (LVal.remI rfl rfl rfl (by omega)) rfl rfl rfl ?_
        | refine LOps.val (LVal.quoU64 rfl rfl rfl (by omega)) rfl rfl rfl ?_
        | refine LOps.val (LVal.quo64 rfl rfl rfl (by omega)) rfl rfl rfl ?_
        | refine LOps.val (LVal.mul64 rfl rfl rfl (by omega)) rfl rfl rfl ?_
        | refine LOps.val (LVal.conv64 hD rfl rfl rfl rfl rfl (by omega)) rfl rfl rfl ?_
        | refine LOps.val (LVal.convU64 hD rfl rfl rfl rfl rfl (by omega)) rfl rfl rfl ?_
        | refine LOps.val (LVal.neqSame hD rfl rfl rfl) rfl rfl rfl ?_
        | refine LOps.val (LVal.neqSameB hD rfl rfl rfl rfl rfl) rfl rfl rfl ?_
        | refine LOps.val (LVal.binOp hD rfl rfl rfl rfl) rfl rfl rfl ?_
        | refine LOps.val (LVal.unOp rfl rfl rfl) rfl rfl rfl ?_
        | refine LOps.val (LVal.pick rfl rfl) rfl rfl rfl ?_
        | refine LOps.val (LVal.extract rfl rfl rfl) rfl rfl rfl ?_
        | refine LOps.val (LVal.convInt hD rfl rfl rfl rfl rfl) rfl rfl rfl ?_
        | refine LOps.val (LVal.fieldAddr hD rfl rfl rfl rfl rfl rfl (by decide)) rfl rfl rfl ?_
        | refine LOps.val (LVal.load hD rfl rfl (by first | assumption | exact box_new _ _ _ | exact box_set _ _ _ | (simp only [box_new, box_set, box_row, box_new_ne, box_set_ne, ne_eq, not_false_eq_true, *]; done) | (simp only [box_new, box_set, box_row, box_new_ne, box_set_ne, ne_eq, not_false_eq_true, *]; rfl)) rfl rfl) rfl rfl rfl ?_
        | refine LOps.val (LVal.indexMap hD rfl rfl rfl rfl rfl rfl (by first | assumption | omega) rfl) rfl rfl rfl ?_
        | refine LOps.val (LVal.loadRo hD rfl rfl rfl rfl) rfl rfl rfl ?_
        | refine LOps.val (LVal.fieldAddrRo hD rfl rfl rfl rfl rfl rfl (by decide)) rfl rfl rfl ?_
        | refine LOps.val (LVal.field hD rfl rfl rfl rfl rfl rfl rfl) rfl rfl rfl ?_
        | refine LOps.val (LVal.buildSlice1 hD rfl rfl rfl rfl rfl rfl rfl rfl rfl rfl) rfl rfl rfl ?_
        | refine LOps.val (LVal.build hD rfl rfl rfl rfl rfl rfl rfl) rfl rfl rfl ?_
        | refine LOps.val (LVal.buildSlice hD rfl rfl rfl rfl rfl rfl rfl rfl rfl rfl) rfl rfl rfl ?_
        | refine LOps.val (LVal.takeMap hD rfl rfl rfl rfl rfl rfl (by first | assumption | omega) rfl (fun _ _ => rfl)) rfl rfl rfl ?_
        | refine LOps.val (LVal.dropMap hD rfl rfl rfl rfl rfl rfl (by first | assumption | omega) rfl (fun _ _ => rfl)) rfl rfl rfl ?_
        | refine LOps.val (LVal.cutMap hD rfl rfl rfl rfl rfl rfl rfl (by first | assumption | omega) (by first | assumption | omega) rfl (fun _ _ => rfl)) rfl rfl rfl ?_
        | refine LOps.val (LVal.move2 rfl rfl) rfl rfl rfl ?_
        | refine LOps.val (LVal.assign2 rfl rfl) rfl rfl rfl ?_
        | refine LOps.val (LVal.move (.inl rfl)) rfl rfl rfl ?_
        | refine LOps.val (LVal.move (.inr rfl)) rfl rfl rfl ?_
        | refine LOps.out rfl rfl rfl ?_
        | refine LOps.valG (LVal.move1 rfl rfl) rfl rfl rfl ?_
        | refine LOps.valG (LVal.assign1 rfl rfl) rfl rfl rfl ?_
        | refine LOps.valG (LVal.len hD rfl rfl rfl rfl) rfl rfl rfl ?_
        | refine LOps.valG (LVal.lenStr hD rfl rfl rfl rfl) rfl rfl rfl ?_
        | refine LOps.valG (LVal.add64 rfl rfl rfl (by omega)) rfl rfl rfl ?_
        | refine LOps.valG (LVal.sub64 rfl rfl rfl (by omega)) rfl rfl rfl ?_
        | refine LOps.valG (LVal.addU64 rfl rfl rfl (by omega)) rfl rfl rfl ?_
        | refine LOps.valG (LVal.subU64 rfl rfl rfl (by omega)) rfl rfl rfl ?_
        | refine LOps.valG (LVal.mulU64 rfl rfl rfl (by omega)) rfl rfl rfl ?_
        | refine LOps.valG (LVal.remI rfl rfl rfl (by omega)) rfl rfl rfl ?_
        | refine LOps.valG (LVal.quoU64 rfl rfl rfl (by omega)) rfl rfl rfl ?_
        | refine LOps.valG (LVal.quo64 rfl rfl rfl (by omega)) rfl rfl rfl ?_
        | refine LOps.valG (LVal.mul64 rfl rfl rfl (by omega)) rfl rfl rfl ?_
        | refine LOps.valG (LVal.conv64 hD rfl rfl rfl rfl rfl (by omega)) rfl rfl rfl ?_
        | refine LOps.valG (LVal.convU64 hD rfl rfl rfl rfl rfl (by omega)) rfl rfl rfl ?_
        | refine LOps.valG (LVal.neqSame hD rfl rfl rfl) rfl rfl rfl ?_
        | refine LOps.valG (LVal.neqSameB hD rfl rfl rfl rfl rfl) rfl rfl rfl ?_
        | refine LOps.valG (LVal.binOp hD rfl rfl rfl rfl) rfl rfl rfl ?_
        | refine LOps.valG (LVal.unOp rfl rfl rfl) rfl rfl rfl ?_
        | refine LOps.valG (LVal.pick rfl rfl) rfl rfl rfl ?_
        | refine LOps.valG (LVal.extract rfl rfl rfl) rfl rfl rfl ?_
        | refine LOps.valG (LVal.convInt hD rfl rfl rfl rfl rfl) rfl rfl rfl ?_
        | refine LOps.valG (LVal.fieldAddr hD rfl rfl rfl rfl rfl rfl (by decide)) rfl rfl rfl ?_
        | refine LOps.valG (LVal.load hD rfl rfl (by first | assumption | exact box_new _ _ _ | exact box_set _ _ _ | (simp only [box_new, box_set, box_row, box_new_ne, box_set_ne, ne_eq, not_false_eq_true, *]; done) | (simp only [box_new, box_set, box_row, box_new_ne, box_set_ne, ne_eq, not_false_eq_true, *]; rfl)) rfl rfl) rfl rfl rfl ?_
        | refine LOps.valG (LVal.indexMap hD rfl rfl rfl rfl rfl rfl (by first | assumption | omega) rfl) rfl rfl rfl ?_
        | refine LOps.valG (LVal.loadRo hD rfl rfl rfl rfl) rfl rfl rfl ?_
        | refine LOps.valG (LVal.fieldAddrRo hD rfl rfl rfl rfl rfl rfl (by decide)) rfl rfl rfl ?_
        | refine LOps.valG (LVal.field hD rfl rfl rfl rfl rfl rfl rfl) rfl rfl rfl ?_
        | refine LOps.valG (LVal.buildSlice1 hD rfl rfl rfl rfl rfl rfl rfl rfl rfl rfl) rfl rfl rfl ?_
        | refine LOps.valG (LVal.build hD rfl rfl rfl rfl rfl rfl rfl) rfl rfl rfl ?_
        | refine LOps.valG (LVal.buildSlice hD rfl rfl rfl rfl rfl rfl rfl rfl rfl rfl) rfl rfl rfl ?_
        | refine LOps.valG (LVal.takeMap hD rfl rfl rfl rfl rfl rfl (by first | assumption | omega) rfl (fun _ _ => rfl)) rfl rfl rfl ?_
        | refine LOps.valG (LVal.dropMap hD rfl rfl rfl rfl rfl rfl (by first | assumption | omega) rfl (fun _ _ => rfl)) rfl rfl rfl ?_
        | refine LOps.valG (LVal.cutMap hD rfl rfl rfl rfl rfl rfl rfl (by first | assumption | omega) (by first | assumption | omega) rfl (fun _ _ => rfl)) rfl rfl rfl ?_
        | refine LOps.valG (LVal.move2 rfl rfl) rfl rfl rfl ?_
        | refine LOps.valG (LVal.assign2 rfl rfl) rfl rfl rfl ?_
        | refine LOps.valG (LVal.move (.inl rfl)) rfl rfl rfl ?_
        | refine LOps.valG (LVal.move (.inr rfl)) rfl rfl rfl ?_
        | (refine LOps.do0 (LDo.store hD rfl rfl (by first | assumption | exact box_new _ _ _ | exact box_set _ _ _ | (simp only [box_new, box_set, box_row, box_new_ne, box_set_ne, ne_eq, not_false_eq_true, *]; done) | (simp only [box_new, box_set, box_row, box_new_ne, box_set_ne, ne_eq, not_false_eq_true, *]; rfl)) rfl rfl rfl rfl) rfl rfl ?_; rintro _ _ ⟨rfl, rfl⟩))
      refine ⟨p % 16 - (k + 1), by omega, _, k + 1, by omega, rfl, ?_, holds.over ⟨rfl, rfl, rfl, rfl, trivial⟩⟩
      rcases hcase with ⟨_, h2⟩ | ⟨rfl, _⟩
      · exact h2
      · simp at h
  · obtain rfl : k = p % 16 := by have := of_decide_eq_false h; omega
    repeat (first
      | refine LOps.nil ?_
      | refine andThen_normal ?_
      | refine andThen_exit ?_
      | refine andThen_ret ?_
      | refine inBlock_normal ?_
      | refine inBlock_ret ?_
      | refine inBlock_here ?_
      | refine inBlock_out rfl ?_
      | refine LWp.seq ?_
      | refine LWp.region ?_
      | refine LWp.block ?_
      | refine LWp.exit ?_
      | refine LWp.ret ?_
      | refine LWp.skip ?_
      | refine LOps.val (LVal.move1 rfl rfl) rfl rfl rfl ?_
      | refine LOps.val (LVal.assign1 rfl rfl) rfl rfl rfl ?_
      | refine LOps.val (LVal.len hD rfl rfl rfl rfl) rfl rfl rfl ?_
      | refine LOps.val (LVal.lenStr hD rfl rfl rfl rfl) rfl rfl rfl ?_
      | refine LOps.val (LVal.add64 rfl rfl rfl (by omega)) rfl rfl rfl ?_
      | refine LOps.val (LVal.sub64 rfl rfl rfl (by omega)) rfl rfl rfl ?_
      | refine LOps.val (LVal.addU64 rfl rfl rfl (by omega)) rfl rfl rfl ?_
      | refine LOps.val (LVal.subU64 rfl rfl rfl (by omega)) rfl rfl rfl ?_
      | refine LOps.val (LVal.mulU64 rfl rfl rfl (by omega)) rfl rfl rfl ?_
      | refine LOps.val (LVal.remI rfl rfl rfl (by omega)) rfl rfl rfl ?_
      | refine LOps.val (LVal.quoU64 rfl rfl rfl (by omega)) rfl rfl rfl ?_
      | refine LOps.val (LVal.quo64 rfl rfl rfl (by omega)) rfl rfl rfl ?_
      | refine LOps.val (LVal.mul64 rfl rfl rfl (by omega)) rfl rfl rfl ?_
      | refine LOps.val (LVal.conv64 hD rfl rfl rfl rfl rfl (by omega)) rfl rfl rfl ?_
      | refine LOps.val (LVal.convU64 hD rfl rfl rfl rfl rfl (by omega)) rfl rfl rfl ?_
      | refine LOps.val (LVal.neqSame hD rfl rfl rfl) rfl rfl rfl ?_
      | refine LOps.val (LVal.neqSameB hD rfl rfl rfl rfl rfl) rfl rfl rfl ?_
      | refine LOps.val (LVal.binOp hD rfl rfl rfl rfl) rfl rfl rfl ?_
      | refine LOps.val (LVal.unOp rfl rfl rfl) rfl rfl rfl ?_
      | refine LOps.val (LVal.pick rfl rfl) rfl rfl rfl ?_
      | refine LOps.val (LVal.extract rfl rfl rfl) rfl rfl rfl ?_
      | refine LOps.val (LVal.convInt hD rfl rfl rfl rfl rfl) rfl rfl rfl ?_
      | refine LOps.val (LVal.fieldAddr hD rfl rfl rfl rfl rfl rfl (by decide)) rfl rfl rfl ?_
      | refine LOps.val (LVal.load hD rfl rfl (by first | assumption | exact box_new _ _ _ | exact box_set _ _ _ | (simp only [box_new, box_set, box_row, box_new_ne, box_set_ne, ne_eq, not_false_eq_true, *]; done) | (simp only [box_new, box_set, box_row, box_new_ne, box_set_ne, ne_eq, not_false_eq_true, *]; rfl)) rfl rfl) rfl rfl rfl ?_
      | refine LOps.val (LVal.indexMap hD rfl rfl rfl rfl rfl rfl (by first | assumption | omega) rfl) rfl rfl rfl ?_
      | refine LOps.val (LVal.loadRo hD rfl rfl rfl rfl) rfl rfl rfl ?_
      | refine LOps.val (LVal.fieldAddrRo hD rfl rfl rfl rfl rfl rfl (by decide)) rfl rfl rfl ?_
      | refine LOps.val (LVal.field hD rfl rfl rfl rfl rfl rfl rfl) rfl rfl rfl ?_
      | refine LOps.val (LVal.buildSlice1 hD rfl rfl rfl rfl rfl rfl rfl rfl rfl rfl) rfl rfl rfl ?_
      | refine LOps.val (LVal.build hD rfl rfl rfl rfl rfl rfl rfl) rfl rfl rfl ?_
      | refine LOps.val (LVal.buildSlice hD rfl rfl rfl rfl rfl rfl rfl rfl rfl rfl) rfl rfl rfl ?_
      | refine LOps.val (LVal.takeMap hD rfl rfl rfl rfl rfl rfl (by first | assumption | omega) rfl (fun _ _ => rfl)) rfl rfl rfl ?_
      | refine LOps.val (LVal.dropMap hD rfl rfl rfl rfl rfl rfl (by first | assumption | omega) rfl (fun _ _ => rfl)) rfl rfl rfl ?_
      | refine LOps.val (LVal.cutMap hD rfl rfl rfl rfl rfl rfl rfl (by first | assumption | omega) (by first | assumption | omega) rfl (fun _ _ => rfl)) rfl rfl rfl ?_
      | refine LOps.val (LVal.move2 rfl rfl) rfl rfl rfl ?_
      | refine LOps.val (LVal.assign2 rfl rfl) rfl rfl rfl ?_
      | refine LOps.val (LVal.move (.inl rfl)) rfl rfl rfl ?_
      | refine LOps.val (LVal.move (.inr rfl)) rfl rfl rfl ?_
      | refine LOps.out rfl rfl rfl ?_
      | refine LOps.valG (LVal.move1 rfl rfl) rfl rfl rfl ?_
      | refine LOps.valG (LVal.assign1 rfl rfl) rfl rfl rfl ?_
      | refine LOps.valG (LVal.len hD rfl rfl rfl rfl) rfl rfl rfl ?_
      | refine LOps.valG (LVal.lenStr hD rfl rfl rfl rfl) rfl rfl rfl ?_
      | refine LOps.valG (LVal.add64 rfl rfl rfl (by omega)) rfl rfl rfl ?_
      | refine LOps.valG (LVal.sub64 rfl rfl rfl (by omega)) rfl rfl rfl ?_
      | refine LOps.valG (LVal.addU64 rfl rfl rfl (by omega)) rfl rfl rfl ?_
      | refine LOps.valG (LVal.subU64 rfl rfl rfl (by omega)) rfl rfl rfl ?_
      | refine LOps.valG (LVal.mulU64 rfl rfl rfl (by omega)) rfl rfl rfl ?_
      | refine LOps.valG (LVal.remI rfl rfl rfl (by omega)) rfl rfl rfl ?_
      | refine LOps.valG (LVal.quoU64 rfl rfl rfl (by omega)) rfl rfl rfl ?_
      | refine LOps.valG (LVal.quo64 rfl rfl rfl (by omega)) rfl rfl rfl ?_
      | refine LOps.valG (LVal.mul64 rfl rfl rfl (by omega)) rfl rfl rfl ?_
      | refine LOps.valG (LVal.conv64 hD rfl rfl rfl rfl rfl (by omega)) rfl rfl rfl ?_
      | refine LOps.valG (LVal.convU64 hD rfl rfl rfl rfl rfl (by omega)) rfl rfl rfl ?_
      | refine LOps.valG (LVal.neqSame hD rfl rfl rfl) rfl rfl rfl ?_
      | refine LOps.valG (LVal.neqSameB hD rfl rfl rfl rfl rfl) rfl rfl rfl ?_
      | refine LOps.valG (LVal.binOp hD rfl rfl rfl rfl) rfl rfl rfl ?_
      | refine LOps.valG (LVal.unOp rfl rfl rfl) rfl rfl rfl ?_
      | refine LOps.valG (LVal.pick rfl rfl) rfl rfl rfl ?_
      | refine LOps.valG (LVal.extract rfl rfl rfl) rfl rfl rfl ?_
      | refine LOps.valG (LVal.convInt hD rfl rfl rfl rfl rfl) rfl rfl rfl ?_
      | refine LOps.valG (LVal.fieldAddr hD rfl rfl rfl rfl rfl rfl (by decide)) rfl rfl rfl ?_
      | refine LOps.valG (LVal.load hD rfl rfl (by first | assumption | exact box_new _ _ _ | exact box_set _ _ _ | (simp only [box_new, box_set, box_row, box_new_ne, box_set_ne, ne_eq, not_false_eq_true, *]; done) | (simp only [box_new, box_set, box_row, box_new_ne, box_set_ne, ne_eq, not_false_eq_true, *]; rfl)) rfl rfl) rfl rfl rfl ?_
      | refine LOps.valG (LVal.indexMap hD rfl rfl rfl rfl rfl rfl (by first | assumption | omega) rfl) rfl rfl rfl ?_
      | refine LOps.valG (LVal.loadRo hD rfl rfl rfl rfl) rfl rfl rfl ?_
      | refine LOps.valG (LVal.fieldAddrRo hD rfl rfl rfl rfl rfl rfl (by decide)) rfl rfl rfl ?_
      | refine LOps.valG (LVal.field hD rfl rfl rfl rfl rfl rfl rfl) rfl rfl rfl ?_
      | refine LOps.valG (LVal.buildSlice1 hD rfl rfl rfl rfl rfl rfl rfl rfl rfl rfl) rfl rfl rfl ?_
      | refine LOps.valG (LVal.build hD rfl rfl rfl rfl rfl rfl rfl) rfl rfl rfl ?_
      | refine LOps.valG (LVal.buildSlice hD rfl rfl rfl rfl rfl rfl rfl rfl rfl rfl) rfl rfl rfl ?_
      | refine LOps.valG (LVal.takeMap hD rfl rfl rfl rfl rfl rfl (by first | assumption | omega) rfl (fun _ _ => rfl)) rfl rfl rfl ?_
      | refine LOps.valG (LVal.dropMap hD rfl rfl rfl rfl rfl rfl (by first | assumption | omega) rfl (fun _ _ => rfl)) rfl rfl rfl ?_
      | refine LOps.valG (LVal.cutMap hD rfl rfl rfl rfl rfl rfl rfl (by first | assumption | omega) (by first | assumption | omega) rfl (fun _ _ => rfl)) rfl rfl rfl ?_
      | refine LOps.valG (LVal.move2 rfl rfl) rfl rfl rfl ?_
      | refine LOps.valG (LVal.assign2 rfl rfl) rfl rfl rfl ?_
      | refine LOps.valG (LVal.move (.inl rfl)) rfl rfl rfl ?_
      | refine LOps.valG (LVal.move (.inr rfl)) rfl rfl rfl ?_
      | (refine LOps.do0 (LDo.store hD rfl rfl (by first | assumption | exact box_new _ _ _ | exact box_set _ _ _ | (simp only [box_new, box_set, box_row, box_new_ne, box_set_ne, ne_eq, not_false_eq_true, *]; done) | (simp only [box_new, box_set, box_row, box_new_ne, box_set_ne, ne_eq, not_false_eq_true, *]; rfl)) rfl rfl rfl rfl) rfl rfl ?_; rintro _ _ ⟨rfl, rfl⟩))
    exact ⟨_, LRes.none rfl, .inl hIk⟩
end Go.Proofs.Ytffeegpjnibdnaa.LF
