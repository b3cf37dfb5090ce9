/- Leaves: Put, Delete. -/
import Derived.Test.YtgkjhlmfgaaddaaLMj
set_option linter.unusedVariables false
set_option linter.unusedSimpArgs false
namespace Go.Proofs.Ytgkjhlmfgaaddaa.LF
open Go.RowKit
set_option linter.unusedVariables false

theorem LDo.storeSlot {G : Ctx} {D : Tab} (hD : TabOK G.P D) {o : Oper} {T : Nat → TV} {S : LS} {t : TypeId} {p x : Operand} {b k : Nat} {l : LeafV} {s : SlotV} {i : TI} (ho : o.op = .store t p x)
    (hp : lev T p = .one (.v (.pointer (some ⟨b, 1 + k * 7, none⟩)))) (hb : S.box b = some (leafL l)) (hx : tcells (lev T x) = some (slotL s)) (hi : D.get t = some i) (hs : i.size = 7) (hk : k < 15) :
    LDo G o T S (fun r S' => r = .any ∧ S' = S.setBox b (leafL (l.up k s))) := by
  have h := LDo.store hD (G := G) (T := T) (S := S) ho hp hb hx hi (by rw [hs]; rfl) (Nat.ble_eq_true_of_le (by rw [leafL_len]; show 1 + k * 7 + 7 ≤ 111; omega))
  rw [stSlot l s k hk] at h
  exact h

theorem putRes {G : Ctx} {n : Nat} {fn : Func} {T : Nat → TV} {S : LS} {a c u : Tmp} {b d : Nat} {l : LeafV} {cs : List LV} {y : Bool} {t1 t2 : TypeId} {i1 i2 : TI} (hf : fn.results = #[.cell a t1, .cell c t2, .tmp u]) (h1 : TIok G.P t1 i1) (ha1 : i1.isAgg = true) (hs1 : i1.size = 111) (h2 : TIok G.P t2 i2) (ha2 : i2.isAgg = true) (hs2 : i2.size = 7)
    (ha : T a = ptr b) (hb : S.box b = some (leafL l)) (hc : T c = ptr d) (hd : S.box d = some cs) (hl : cs.length = 7) (hy : T u = .one (bv y)) : LRes G n fn T S (.tup [.agg (leafL l), .agg cs, .one (bv y)]) := by
  rw [← hy]
  exact LRes.many (vs := [.cell a t1, .cell c t2, .tmp u]) hf rfl (.cons (.cell ha hb h1 (rdLeaf l ha1 hs1)) (.cons (.cell hc hd h2 (readT_agg ha2 (by rw [List.drop_zero, hl, hs2]; exact Nat.le_refl _) (by rw [List.drop_zero, List.take_of_length_le (by rw [hl, hs2]; exact Nat.le_refl _)]))) (.cons (.tmp _) .nil)))

/-- What a leaf becomes by a slot. -/
def putL (l : LeafV) (s : SlotV) : LeafV × SlotV × Bool :=
  if rightL l = true ∧ rightS s = true ∧ coversL l s.m = true then
    if (findL l s.m).2 = true then (l.up (nib l.p (findL l s.m).1) s, l.rank (findL l s.m).1, true)
    else if l.p % 16 < 15 then (LeafV.up { l with p := insW l.p (findL l s.m).1 } (nib l.p (l.p % 16)) s, noSlot, false)
    else (l, noSlot, false)
  else (l, noSlot, false)
/-- What a leaf becomes without a mark. -/
def delL (l : LeafV) (m : MarkV) : LeafV × SlotV × Bool :=
  if (findL l m).2 = true then (LeafV.up { l with p := remW l.p (findL l m).1 } (nib l.p (findL l m).1) noSlot, l.rank (findL l m).1, true) else (l, noSlot, false)

theorem findL_yes {l : LeafV} {m : MarkV} (h : (findL l m).2 = true) : rightL l = true ∧ (findL l m).1 < l.p % 16 := by
  unfold findL at h ⊢
  cases hr : rightL l with
  | false => rw [hr] at h; cases h
  | true =>
    rw [hr] at h
    simp only [if_pos, Bool.and_eq_true, decide_eq_true_eq] at h ⊢
    exact ⟨trivial, h.1⟩
theorem findL_le (l : LeafV) (m : MarkV) : (findL l m).1 ≤ l.p % 16 := by
  unfold findL
  cases rightL l with
  | false => exact Nat.zero_le _
  | true => exact lessN_le l m

set_option maxHeartbeats 16000000 in
theorem putLeaf_L {G : Ctx} (hP : G.P = Try.prog) (l : LeafV) (hl : l.ok) (s : SlotV) (hs : s.m.ok) : LFun G 16 [.agg (leafL l), .agg (slotL s)] (.tup [.agg (leafL (putL l s).1), .agg (slotL (putL l s).2.1), .one (bv (putL l s).2.2)]) := LFun.of fun S => by
  have hD : TabOK G.P D := by rw [hP]; exact hD0
  have c1 := right_L hP l hl
  have c2 := right_S hP s hs
  have c3 := covers_F hP l s.m
  have c4 := find_L hP l hl s.m
  have t1 : TIok G.P 31 ti31 := hP ▸ tok31
  have t2 : TIok G.P 28 ti28 := hP ▸ tok28
  refine LCalls.enter (fn := Try.f16) (by rw [hP]; exact Try.func16) rfl rfl ?_
  repeat (first | refine LOps.nil ?_ | refine andThen_normal ?_ | refine andThen_exit ?_ | refine andThen_ret ?_ | refine inBlock_normal ?_ | refine inBlock_ret ?_ | refine inBlock_here ?_ | refine inBlock_out rfl ?_ | refine LWp.seq ?_ | refine LWp.region ?_ | refine LWp.block ?_ | refine LWp.exit ?_ | refine LWp.ret ?_ | refine LWp.skip ?_ | refine LOps.valA ?_ | refine LOps.outA ?_ | refine LOps.whenA ?_ | refine LOps.pickA ?_ | refine LOps.storeA ?_)
  have hle := LS.le.refl S
  refine LOps.do (LDo.box rfl rfl) rfl rfl rfl ?_
  rintro _ _ ⟨b2, hb2, rfl, rfl⟩
  have s2 := hle.none hb2
  refine LOps.gen (fun S' => S.le S' ∧ S'.box b2 = some (leafL l)) ⟨hle.newBox hb2 _, box_new _ _ _⟩ ?_
  clear hle hb2 
  rintro S2 ⟨hle, k2⟩
  repeat (first | refine LOps.nil ?_ | refine andThen_normal ?_ | refine andThen_exit ?_ | refine andThen_ret ?_ | refine inBlock_normal ?_ | refine inBlock_ret ?_ | refine inBlock_here ?_ | refine inBlock_out rfl ?_ | refine LWp.seq ?_ | refine LWp.region ?_ | refine LWp.block ?_ | refine LWp.exit ?_ | refine LWp.ret ?_ | refine LWp.skip ?_ | refine LOps.valA ?_ | refine LOps.outA ?_ | refine LOps.whenA ?_ | refine LOps.pickA ?_ | refine LOps.storeA ?_)
  skip
  refine LOps.do (LDo.box rfl rfl) rfl rfl rfl ?_
  rintro _ _ ⟨b3, hb3, rfl, rfl⟩
  have n2_3 := fresh_ne hb3 k2
  have m3_2 := n2_3.symm
  have s3 := hle.none hb3
  refine LOps.gen (fun S' => S.le S' ∧ S'.box b2 = some (leafL l) ∧ S'.box b3 = some (slotL s)) ⟨hle.newBox hb3 _, (box_new_ne _ _ n2_3).trans k2, box_new _ _ _⟩ ?_
  clear hle hb3 k2
  rintro S3 ⟨hle, k2, k3⟩
  repeat (first | refine LOps.nil ?_ | refine andThen_normal ?_ | refine andThen_exit ?_ | refine andThen_ret ?_ | refine inBlock_normal ?_ | refine inBlock_ret ?_ | refine inBlock_here ?_ | refine inBlock_out rfl ?_ | refine LWp.seq ?_ | refine LWp.region ?_ | refine LWp.block ?_ | refine LWp.exit ?_ | refine LWp.ret ?_ | refine LWp.skip ?_ | refine LOps.valA ?_ | refine LOps.outA ?_ | refine LOps.whenA ?_ | refine LOps.pickA ?_ | refine LOps.storeA ?_)
  skip
  refine LOps.do (LDo.alloc hD rfl rfl rfl) rfl rfl rfl ?_
  rintro _ _ ⟨b4, hb4, rfl, rfl⟩
  have n2_4 := fresh_ne hb4 k2
  have m4_2 := n2_4.symm
  have n3_4 := fresh_ne hb4 k3
  have m4_3 := n3_4.symm
  have s4 := hle.none hb4
  refine LOps.gen (fun S' => S.le S' ∧ S'.box b2 = some (leafL l) ∧ S'.box b3 = some (slotL s) ∧ S'.box b4 = some (leafL noLeaf)) ⟨hle.newBox hb4 _, (box_new_ne _ _ n2_4).trans k2, (box_new_ne _ _ n3_4).trans k3, (box_new _ _ _).trans (congrArg some zeroLeaf)⟩ ?_
  clear hle hb4 k2 k3
  rintro S4 ⟨hle, k2, k3, k4⟩
  repeat (first | refine LOps.nil ?_ | refine andThen_normal ?_ | refine andThen_exit ?_ | refine andThen_ret ?_ | refine inBlock_normal ?_ | refine inBlock_ret ?_ | refine inBlock_here ?_ | refine inBlock_out rfl ?_ | refine LWp.seq ?_ | refine LWp.region ?_ | refine LWp.block ?_ | refine LWp.exit ?_ | refine LWp.ret ?_ | refine LWp.skip ?_ | refine LOps.valA ?_ | refine LOps.outA ?_ | refine LOps.whenA ?_ | refine LOps.pickA ?_ | refine LOps.storeA ?_)
  skip
  refine LOps.do (LDo.alloc hD rfl rfl rfl) rfl rfl rfl ?_
  rintro _ _ ⟨b5, hb5, rfl, rfl⟩
  have n2_5 := fresh_ne hb5 k2
  have m5_2 := n2_5.symm
  have n3_5 := fresh_ne hb5 k3
  have m5_3 := n3_5.symm
  have n4_5 := fresh_ne hb5 k4
  have m5_4 := n4_5.symm
  have s5 := hle.none hb5
  refine LOps.gen (fun S' => S.le S' ∧ S'.box b2 = some (leafL l) ∧ S'.box b3 = some (slotL s) ∧ S'.box b4 = some (leafL noLeaf) ∧ S'.box b5 = some (slotL noSlot)) ⟨hle.newBox hb5 _, (box_new_ne _ _ n2_5).trans k2, (box_new_ne _ _ n3_5).trans k3, (box_new_ne _ _ n4_5).trans k4, box_new _ _ _⟩ ?_
  clear hle hb5 k2 k3 k4
  rintro S5 ⟨hle, k2, k3, k4, k5⟩
  by_cases hall : rightL l = true ∧ rightS s = true ∧ coversL l s.m = true
  · obtain ⟨hr, hrs, hc⟩ := hall
    have e0 : putL l s = if (findL l s.m).2 = true then (l.up (nib l.p (findL l s.m).1) s, l.rank (findL l s.m).1, true) else if l.p % 16 < 15 then (LeafV.up { l with p := insW l.p (findL l s.m).1 } (nib l.p (l.p % 16)) s, noSlot, false) else (l, noSlot, false) := by unfold putL; rw [if_pos ⟨hr, hrs, hc⟩]
    rw [hr] at c1
    rw [hrs] at c2
    rw [hc] at c3
    have hrt := rightL_rt hr
    have hn15 := rt_le hrt
    cases hf : (findL l s.m).2 with
    | true =>
      obtain ⟨_, hlt⟩ := findL_yes hf
      rw [if_pos hf] at e0
      rw [e0]
      obtain ⟨k, hk⟩ : ∃ k, (findL l s.m).1 = k := ⟨_, rfl⟩
      rw [hf, hk] at c4
      rw [hk] at hlt ⊢
      have hn := nib_low hrt (show k < 15 by omega)
      have hat : LFun G 47 [.one (.v (.int .u64 l.p)), .one (iv (k : Nat))] (.one (iv (nib l.p k : Nat))) := by
        have := at_F hP l.p (k : Nat) hl.p
        unfold atR at this
        rwa [if_pos (by omega), Int.toNat_natCast] at this
      repeat (first | refine LOps.valH (LVal.call rfl rfl (by rw [hP]; exact Try.func12) rfl (by decide) (c1)) ?_ | refine LOps.valH (LVal.call rfl rfl (by rw [hP]; exact Try.func13) rfl (by decide) (c2)) ?_ | refine LOps.valH (LVal.call rfl rfl (by rw [hP]; exact Try.func14) rfl (by decide) (c3)) ?_ | refine LOps.valH (LVal.call rfl rfl (by rw [hP]; exact Try.func24) rfl (by decide) (c4)) ?_ | refine LOps.valH (LVal.call rfl rfl (by rw [hP]; exact Try.func47) rfl (by decide) (hat)) ?_ | refine LOps.valH (LVal.load hD rfl rfl k2 rfl (rdLeaf l)) ?_ | refine LWp.condF rfl ?_ | refine LWp.condT rfl ?_ | refine LOps.valH (LVal.indexP hD rfl rfl rfl rfl rfl rfl hn) ?_ | refine LOps.valH (LVal.load hD rfl rfl k2 rfl (rdSlot l hn)) ?_ | refine LOps.valH (LVal.to (LVal.binOp hD rfl rfl rfl rfl) (r' := .one (.v (.bool true))) (congrArg (fun b => TV.one (.v (.bool b))) (by first | exact decide_eq_true (by omega) | (rw [beq_iff_eq]; omega) | (rw [bne_iff_ne]; omega)))) ?_ | refine LOps.valH (LVal.to (LVal.binOp hD rfl rfl rfl rfl) (r' := .one (.v (.bool false))) (congrArg (fun b => TV.one (.v (.bool b))) (by first | exact decide_eq_false (by omega) | (rw [beq_eq_false_iff_ne]; omega) | (rw [bne_eq_false_iff_eq]; omega)))) ?_ | refine LOps.valW ?_ | refine LOps.nil ?_ | refine andThen_normal ?_ | refine andThen_exit ?_ | refine andThen_ret ?_ | refine inBlock_normal ?_ | refine inBlock_ret ?_ | refine inBlock_here ?_ | refine inBlock_out rfl ?_ | refine LWp.seq ?_ | refine LWp.region ?_ | refine LWp.block ?_ | refine LWp.exit ?_ | refine LWp.ret ?_ | refine LWp.skip ?_ | refine LOps.val (LVal.call rfl rfl (by rw [hP]; exact Try.func12) rfl (by decide) (c1)) rfl rfl rfl ?_ | refine LOps.val (LVal.call rfl rfl (by rw [hP]; exact Try.func13) rfl (by decide) (c2)) rfl rfl rfl ?_ | refine LOps.val (LVal.call rfl rfl (by rw [hP]; exact Try.func14) rfl (by decide) (c3)) rfl rfl rfl ?_ | refine LOps.val (LVal.call rfl rfl (by rw [hP]; exact Try.func24) rfl (by decide) (c4)) rfl rfl rfl ?_ | refine LOps.val (LVal.call rfl rfl (by rw [hP]; exact Try.func47) rfl (by decide) (hat)) rfl rfl rfl ?_ | refine LOps.whenC (LVal.call rfl rfl (by rw [hP]; exact Try.func12) rfl (by decide) (c1)) ?_ | refine LOps.whenC (LVal.call rfl rfl (by rw [hP]; exact Try.func13) rfl (by decide) (c2)) ?_ | refine LOps.whenC (LVal.call rfl rfl (by rw [hP]; exact Try.func14) rfl (by decide) (c3)) ?_ | refine LOps.whenC (LVal.call rfl rfl (by rw [hP]; exact Try.func24) rfl (by decide) (c4)) ?_ | refine LOps.whenC (LVal.call rfl rfl (by rw [hP]; exact Try.func47) rfl (by decide) (hat)) ?_ | refine LOps.valA ?_ | refine LOps.outA ?_ | refine LOps.whenA ?_ | refine LOps.pickA ?_ | refine LOps.storeA ?_)
      refine LOps.gen (fun S' => S.le S' ∧ S'.box b2 = some (leafL l) ∧ S'.box b4 = some (leafL noLeaf) ∧ S'.box b5 = some (slotL (l.rank k))) ⟨hle.setBox s5 _, (box_set_ne _ _ n2_5).trans k2, (box_set_ne _ _ n4_5).trans k4, box_set _ _ _⟩ ?_
      clear hle k2 k3 k4 k5
      rintro S6 ⟨hle, k2, k4, k5⟩
      refine LOps.do0 (LDo.storeSlot hD rfl rfl k2 rfl rfl rfl hn) rfl rfl ?_
      rintro _ _ ⟨rfl, rfl⟩
      refine LOps.gen (fun S' => S.le S' ∧ S'.box b2 = some (leafL (l.up (nib l.p k) s)) ∧ S'.box b4 = some (leafL noLeaf) ∧ S'.box b5 = some (slotL (l.rank k))) ⟨hle.setBox s2 _, box_set _ _ _, (box_set_ne _ _ m4_2).trans k4, (box_set_ne _ _ m5_2).trans k5⟩ ?_
      clear hle k2 k4 k5
      rintro S7 ⟨hle, k2, k4, k5⟩
      repeat (first | refine LOps.nil ?_ | refine andThen_normal ?_ | refine andThen_exit ?_ | refine andThen_ret ?_ | refine inBlock_normal ?_ | refine inBlock_ret ?_ | refine inBlock_here ?_ | refine inBlock_out rfl ?_ | refine LWp.seq ?_ | refine LWp.region ?_ | refine LWp.block ?_ | refine LWp.exit ?_ | refine LWp.ret ?_ | refine LWp.skip ?_ | refine LOps.valA ?_ | refine LOps.outA ?_ | refine LOps.whenA ?_ | refine LOps.pickA ?_ | refine LOps.storeA ?_)
      refine LWp.drawX (fun b => b = b4) [0, 1, 2, 3, 4] (by rw [hP]; rfl) rfl ?_
      repeat (first | refine LRl.valH (LVal.load hD rfl rfl k2 rfl (rdLeaf _)) ?_ (fun _ hS => LVal.load hD rfl rfl (hS.box _ _ k2 (by first | exact id | (intro hx; rcases hx with hx | hx <;> omega) | (intro hx; have hx2 : _ = _ := hx; omega))) rfl (rdLeaf _)) | refine LRl.nil ?_ | refine LRl.valA ?_ | refine LRl.outA ?_ | refine LRl.whenA ?_ | refine LRl.pickA ?_)
      refine LRl.act0 (LDo.store hD rfl rfl k4 rfl rfl rfl rfl) rfl rfl rfl (by rintro _ _ ⟨rfl, rfl⟩; exact .inl (LS.leX.setBox (X := fun b => b = b4) rfl _)) ?_
      rintro _ _ ⟨rfl, rfl⟩
      refine LRl.act0 (LDo.store hD rfl rfl ((box_set_ne _ _ m5_4).trans k5) rfl rfl rfl rfl) rfl rfl rfl (fun _ _ _ => .inr rfl) ?_
      rintro _ _ ⟨rfl, rfl⟩
      repeat (first | refine LRl.nil ?_ | refine LRl.valA ?_ | refine LRl.outA ?_ | refine LRl.whenA ?_ | refine LRl.pickA ?_)
      repeat (first | refine LOps.nil ?_ | refine andThen_normal ?_ | refine andThen_exit ?_ | refine andThen_ret ?_ | refine inBlock_normal ?_ | refine inBlock_ret ?_ | refine inBlock_here ?_ | refine inBlock_out rfl ?_ | refine LWp.seq ?_ | refine LWp.region ?_ | refine LWp.block ?_ | refine LWp.exit ?_ | refine LWp.ret ?_ | refine LWp.skip ?_ | refine LOps.valA ?_ | refine LOps.outA ?_ | refine LOps.whenA ?_ | refine LOps.pickA ?_ | refine LOps.storeA ?_)
      exact ⟨_, putRes rfl t1 rfl rfl t2 rfl rfl rfl ((box_set_ne _ _ n4_5).trans ((box_set _ _ _).trans (congrArg some (stLeaf _ _)))) rfl (box_set _ _ _) rfl rfl, rfl, (hle.setBox s4 _).setBox s5 _⟩
    | false =>
      rw [if_neg (by rw [hf]; decide)] at e0
      obtain ⟨k, hk⟩ : ∃ k, (findL l s.m).1 = k := ⟨_, rfl⟩
      have hkn := findL_le l s.m
      rw [hf, hk] at c4
      rw [hk] at e0 hkn
      by_cases hful : l.p % 16 < 15
      · rw [if_pos hful] at e0
        rw [e0]
        have hn := nib_low hrt hful
        have hins : LFun G 49 [.one (.v (.int .u64 l.p)), .one (iv (k : Nat))] (yesR (insW l.p k) (nib l.p (l.p % 16))) := by
          have := ins_F hP l.p (k : Nat) hl.p
          unfold insR at this
          rwa [if_pos ⟨hrt, hful, by omega, by omega⟩, Int.toNat_natCast] at this
        repeat (first | refine LOps.valH (LVal.call rfl rfl (by rw [hP]; exact Try.func12) rfl (by decide) (c1)) ?_ | refine LOps.valH (LVal.call rfl rfl (by rw [hP]; exact Try.func13) rfl (by decide) (c2)) ?_ | refine LOps.valH (LVal.call rfl rfl (by rw [hP]; exact Try.func14) rfl (by decide) (c3)) ?_ | refine LOps.valH (LVal.call rfl rfl (by rw [hP]; exact Try.func24) rfl (by decide) (c4)) ?_ | refine LOps.valH (LVal.call rfl rfl (by rw [hP]; exact Try.func49) rfl (by decide) (hins)) ?_ | refine LOps.valH (LVal.load hD rfl rfl k2 rfl (rdLeaf l)) ?_ | refine LWp.condF rfl ?_ | refine LWp.condT rfl ?_ | refine LOps.valH (LVal.load hD rfl rfl k2 rfl (rdPerm l)) ?_ | refine LOps.valH (LVal.indexP hD rfl rfl rfl rfl rfl rfl hn) ?_ | refine LOps.valH (LVal.to (LVal.binOp hD rfl rfl rfl rfl) (r' := .one (.v (.bool true))) (congrArg (fun b => TV.one (.v (.bool b))) (by first | exact decide_eq_true (by omega) | (rw [beq_iff_eq]; omega) | (rw [bne_iff_ne]; omega)))) ?_ | refine LOps.valH (LVal.to (LVal.binOp hD rfl rfl rfl rfl) (r' := .one (.v (.bool false))) (congrArg (fun b => TV.one (.v (.bool b))) (by first | exact decide_eq_false (by omega) | (rw [beq_eq_false_iff_ne]; omega) | (rw [bne_eq_false_iff_eq]; omega)))) ?_ | refine LOps.valW ?_ | refine LOps.nil ?_ | refine andThen_normal ?_ | refine andThen_exit ?_ | refine andThen_ret ?_ | refine inBlock_normal ?_ | refine inBlock_ret ?_ | refine inBlock_here ?_ | refine inBlock_out rfl ?_ | refine LWp.seq ?_ | refine LWp.region ?_ | refine LWp.block ?_ | refine LWp.exit ?_ | refine LWp.ret ?_ | refine LWp.skip ?_ | refine LOps.val (LVal.call rfl rfl (by rw [hP]; exact Try.func12) rfl (by decide) (c1)) rfl rfl rfl ?_ | refine LOps.val (LVal.call rfl rfl (by rw [hP]; exact Try.func13) rfl (by decide) (c2)) rfl rfl rfl ?_ | refine LOps.val (LVal.call rfl rfl (by rw [hP]; exact Try.func14) rfl (by decide) (c3)) rfl rfl rfl ?_ | refine LOps.val (LVal.call rfl rfl (by rw [hP]; exact Try.func24) rfl (by decide) (c4)) rfl rfl rfl ?_ | refine LOps.val (LVal.call rfl rfl (by rw [hP]; exact Try.func49) rfl (by decide) (hins)) rfl rfl rfl ?_ | refine LOps.whenC (LVal.call rfl rfl (by rw [hP]; exact Try.func12) rfl (by decide) (c1)) ?_ | refine LOps.whenC (LVal.call rfl rfl (by rw [hP]; exact Try.func13) rfl (by decide) (c2)) ?_ | refine LOps.whenC (LVal.call rfl rfl (by rw [hP]; exact Try.func14) rfl (by decide) (c3)) ?_ | refine LOps.whenC (LVal.call rfl rfl (by rw [hP]; exact Try.func24) rfl (by decide) (c4)) ?_ | refine LOps.whenC (LVal.call rfl rfl (by rw [hP]; exact Try.func49) rfl (by decide) (hins)) ?_ | refine LOps.valA ?_ | refine LOps.outA ?_ | refine LOps.whenA ?_ | refine LOps.pickA ?_ | refine LOps.storeA ?_)
        refine LOps.gen (fun S' => S.le S' ∧ S'.box b2 = some (leafL { l with p := insW l.p k }) ∧ S'.box b4 = some (leafL noLeaf) ∧ S'.box b5 = some (slotL noSlot)) ⟨hle.setBox s2 _, (box_set _ _ _).trans (congrArg some (stPerm _ _)), (box_set_ne _ _ m4_2).trans k4, (box_set_ne _ _ m5_2).trans k5⟩ ?_
        clear hle k2 k3 k4 k5
        rintro S6 ⟨hle, k2, k4, k5⟩
        refine LOps.do0 (LDo.storeSlot hD rfl rfl k2 rfl rfl rfl hn) rfl rfl ?_
        rintro _ _ ⟨rfl, rfl⟩
        refine LOps.gen (fun S' => S.le S' ∧ S'.box b2 = some (leafL (LeafV.up { l with p := insW l.p k } (nib l.p (l.p % 16)) s)) ∧ S'.box b4 = some (leafL noLeaf) ∧ S'.box b5 = some (slotL noSlot)) ⟨hle.setBox s2 _, box_set _ _ _, (box_set_ne _ _ m4_2).trans k4, (box_set_ne _ _ m5_2).trans k5⟩ ?_
        clear hle k2 k4 k5
        rintro S7 ⟨hle, k2, k4, k5⟩
        repeat (first | refine LOps.valH (LVal.load hD rfl rfl k2 rfl (rdLeaf _)) ?_ | refine LOps.storeA (b := b4) (off := 0) (cs := leafL noLeaf) (l := leafL _) ?_ | refine LOps.nil ?_ | refine andThen_normal ?_ | refine andThen_exit ?_ | refine andThen_ret ?_ | refine inBlock_normal ?_ | refine inBlock_ret ?_ | refine inBlock_here ?_ | refine inBlock_out rfl ?_ | refine LWp.seq ?_ | refine LWp.region ?_ | refine LWp.block ?_ | refine LWp.exit ?_ | refine LWp.ret ?_ | refine LWp.skip ?_ | refine LOps.valA ?_ | refine LOps.outA ?_ | refine LOps.whenA ?_ | refine LOps.pickA ?_ | refine LOps.storeA ?_)
        exact ⟨_, putRes rfl t1 rfl rfl t2 rfl rfl rfl ((box_set_ne _ _ n4_5).trans ((box_set _ _ _).trans (congrArg some (stLeaf _ _)))) rfl (box_set _ _ _) rfl rfl, rfl, (hle.setBox s4 _).setBox s5 _⟩
      · rw [if_neg hful] at e0
        rw [e0]
        have hins : LFun G 49 [.one (.v (.int .u64 l.p)), .one (iv (k : Nat))] (noR l.p) := by
          have := ins_F hP l.p (k : Nat) hl.p
          unfold insR at this
          rwa [if_neg (fun h => hful h.2.1)] at this
        repeat (first | refine LOps.valH (LVal.call rfl rfl (by rw [hP]; exact Try.func12) rfl (by decide) (c1)) ?_ | refine LOps.valH (LVal.call rfl rfl (by rw [hP]; exact Try.func13) rfl (by decide) (c2)) ?_ | refine LOps.valH (LVal.call rfl rfl (by rw [hP]; exact Try.func14) rfl (by decide) (c3)) ?_ | refine LOps.valH (LVal.call rfl rfl (by rw [hP]; exact Try.func24) rfl (by decide) (c4)) ?_ | refine LOps.valH (LVal.call rfl rfl (by rw [hP]; exact Try.func49) rfl (by decide) (hins)) ?_ | refine LOps.valH (LVal.load hD rfl rfl k2 rfl (rdLeaf l)) ?_ | refine LWp.condF rfl ?_ | refine LOps.valH (LVal.load hD rfl rfl k2 rfl (rdPerm l)) ?_ | refine LOps.storeA (b := b4) (off := 0) (cs := leafL noLeaf) (l := leafL _) ?_ | refine LOps.valH (LVal.to (LVal.binOp hD rfl rfl rfl rfl) (r' := .one (.v (.bool true))) (congrArg (fun b => TV.one (.v (.bool b))) (by first | exact decide_eq_true (by omega) | (rw [beq_iff_eq]; omega) | (rw [bne_iff_ne]; omega)))) ?_ | refine LOps.valH (LVal.to (LVal.binOp hD rfl rfl rfl rfl) (r' := .one (.v (.bool false))) (congrArg (fun b => TV.one (.v (.bool b))) (by first | exact decide_eq_false (by omega) | (rw [beq_eq_false_iff_ne]; omega) | (rw [bne_eq_false_iff_eq]; omega)))) ?_ | refine LOps.valW ?_ | refine LOps.nil ?_ | refine andThen_normal ?_ | refine andThen_exit ?_ | refine andThen_ret ?_ | refine inBlock_normal ?_ | refine inBlock_ret ?_ | refine inBlock_here ?_ | refine inBlock_out rfl ?_ | refine LWp.seq ?_ | refine LWp.region ?_ | refine LWp.block ?_ | refine LWp.exit ?_ | refine LWp.ret ?_ | refine LWp.skip ?_ | refine LOps.val (LVal.call rfl rfl (by rw [hP]; exact Try.func12) rfl (by decide) (c1)) rfl rfl rfl ?_ | refine LOps.val (LVal.call rfl rfl (by rw [hP]; exact Try.func13) rfl (by decide) (c2)) rfl rfl rfl ?_ | refine LOps.val (LVal.call rfl rfl (by rw [hP]; exact Try.func14) rfl (by decide) (c3)) rfl rfl rfl ?_ | refine LOps.val (LVal.call rfl rfl (by rw [hP]; exact Try.func24) rfl (by decide) (c4)) rfl rfl rfl ?_ | refine LOps.val (LVal.call rfl rfl (by rw [hP]; exact Try.func49) rfl (by decide) (hins)) rfl rfl rfl ?_ | refine LOps.whenC (LVal.call rfl rfl (by rw [hP]; exact Try.func12) rfl (by decide) (c1)) ?_ | refine LOps.whenC (LVal.call rfl rfl (by rw [hP]; exact Try.func13) rfl (by decide) (c2)) ?_ | refine LOps.whenC (LVal.call rfl rfl (by rw [hP]; exact Try.func14) rfl (by decide) (c3)) ?_ | refine LOps.whenC (LVal.call rfl rfl (by rw [hP]; exact Try.func24) rfl (by decide) (c4)) ?_ | refine LOps.whenC (LVal.call rfl rfl (by rw [hP]; exact Try.func49) rfl (by decide) (hins)) ?_ | refine LOps.valA ?_ | refine LOps.outA ?_ | refine LOps.whenA ?_ | refine LOps.pickA ?_ | refine LOps.storeA ?_)
        exact ⟨_, putRes rfl t1 rfl rfl t2 rfl rfl rfl ((box_set_ne _ _ n4_5).trans ((box_set _ _ _).trans (congrArg some (stLeaf _ _)))) rfl (box_set _ _ _) rfl rfl, rfl, (hle.setBox s4 _).setBox s5 _⟩
  · have e0 : putL l s = (l, noSlot, false) := by unfold putL; rw [if_neg hall]
    rw [e0]
    cases hr : rightL l with
    | false =>
      rw [hr] at c1
      repeat (first | refine LOps.valH (LVal.call rfl rfl (by rw [hP]; exact Try.func12) rfl (by decide) (c1)) ?_ | refine LOps.valH (LVal.load hD rfl rfl k2 rfl (rdLeaf l)) ?_ | refine LWp.condT rfl ?_ | refine LOps.storeA (b := b4) (off := 0) (cs := leafL noLeaf) (l := leafL _) ?_ | refine LOps.valH (LVal.to (LVal.binOp hD rfl rfl rfl rfl) (r' := .one (.v (.bool true))) (congrArg (fun b => TV.one (.v (.bool b))) (by first | exact decide_eq_true (by omega) | (rw [beq_iff_eq]; omega) | (rw [bne_iff_ne]; omega)))) ?_ | refine LOps.valH (LVal.to (LVal.binOp hD rfl rfl rfl rfl) (r' := .one (.v (.bool false))) (congrArg (fun b => TV.one (.v (.bool b))) (by first | exact decide_eq_false (by omega) | (rw [beq_eq_false_iff_ne]; omega) | (rw [bne_eq_false_iff_eq]; omega)))) ?_ | refine LOps.valW ?_ | refine LOps.nil ?_ | refine andThen_normal ?_ | refine andThen_exit ?_ | refine andThen_ret ?_ | refine inBlock_normal ?_ | refine inBlock_ret ?_ | refine inBlock_here ?_ | refine inBlock_out rfl ?_ | refine LWp.seq ?_ | refine LWp.region ?_ | refine LWp.block ?_ | refine LWp.exit ?_ | refine LWp.ret ?_ | refine LWp.skip ?_ | refine LOps.val (LVal.call rfl rfl (by rw [hP]; exact Try.func12) rfl (by decide) (c1)) rfl rfl rfl ?_ | refine LOps.whenC (LVal.call rfl rfl (by rw [hP]; exact Try.func12) rfl (by decide) (c1)) ?_ | refine LOps.valA ?_ | refine LOps.outA ?_ | refine LOps.whenA ?_ | refine LOps.pickA ?_ | refine LOps.storeA ?_)
      exact ⟨_, putRes rfl t1 rfl rfl t2 rfl rfl rfl ((box_set_ne _ _ n4_5).trans ((box_set _ _ _).trans (congrArg some (stLeaf _ _)))) rfl (box_set _ _ _) rfl rfl, rfl, (hle.setBox s4 _).setBox s5 _⟩
    | true =>
    rw [hr] at c1
    cases hrs : rightS s with
    | false =>
      rw [hrs] at c2
      repeat (first | refine LOps.valH (LVal.call rfl rfl (by rw [hP]; exact Try.func12) rfl (by decide) (c1)) ?_ | refine LOps.valH (LVal.call rfl rfl (by rw [hP]; exact Try.func13) rfl (by decide) (c2)) ?_ | refine LOps.valH (LVal.load hD rfl rfl k2 rfl (rdLeaf l)) ?_ | refine LWp.condT rfl ?_ | refine LOps.storeA (b := b4) (off := 0) (cs := leafL noLeaf) (l := leafL _) ?_ | refine LOps.valH (LVal.to (LVal.binOp hD rfl rfl rfl rfl) (r' := .one (.v (.bool true))) (congrArg (fun b => TV.one (.v (.bool b))) (by first | exact decide_eq_true (by omega) | (rw [beq_iff_eq]; omega) | (rw [bne_iff_ne]; omega)))) ?_ | refine LOps.valH (LVal.to (LVal.binOp hD rfl rfl rfl rfl) (r' := .one (.v (.bool false))) (congrArg (fun b => TV.one (.v (.bool b))) (by first | exact decide_eq_false (by omega) | (rw [beq_eq_false_iff_ne]; omega) | (rw [bne_eq_false_iff_eq]; omega)))) ?_ | refine LOps.valW ?_ | refine LOps.nil ?_ | refine andThen_normal ?_ | refine andThen_exit ?_ | refine andThen_ret ?_ | refine inBlock_normal ?_ | refine inBlock_ret ?_ | refine inBlock_here ?_ | refine inBlock_out rfl ?_ | refine LWp.seq ?_ | refine LWp.region ?_ | refine LWp.block ?_ | refine LWp.exit ?_ | refine LWp.ret ?_ | refine LWp.skip ?_ | refine LOps.val (LVal.call rfl rfl (by rw [hP]; exact Try.func12) rfl (by decide) (c1)) rfl rfl rfl ?_ | refine LOps.val (LVal.call rfl rfl (by rw [hP]; exact Try.func13) rfl (by decide) (c2)) rfl rfl rfl ?_ | refine LOps.whenC (LVal.call rfl rfl (by rw [hP]; exact Try.func12) rfl (by decide) (c1)) ?_ | refine LOps.whenC (LVal.call rfl rfl (by rw [hP]; exact Try.func13) rfl (by decide) (c2)) ?_ | refine LOps.valA ?_ | refine LOps.outA ?_ | refine LOps.whenA ?_ | refine LOps.pickA ?_ | refine LOps.storeA ?_)
      exact ⟨_, putRes rfl t1 rfl rfl t2 rfl rfl rfl ((box_set_ne _ _ n4_5).trans ((box_set _ _ _).trans (congrArg some (stLeaf _ _)))) rfl (box_set _ _ _) rfl rfl, rfl, (hle.setBox s4 _).setBox s5 _⟩
    | true =>
      rw [hrs] at c2
      have hc : coversL l s.m = false := by
        cases hc : coversL l s.m with
        | false => rfl
        | true => exact absurd ⟨hr, hrs, hc⟩ hall
      rw [hc] at c3
      repeat (first | refine LOps.valH (LVal.call rfl rfl (by rw [hP]; exact Try.func12) rfl (by decide) (c1)) ?_ | refine LOps.valH (LVal.call rfl rfl (by rw [hP]; exact Try.func13) rfl (by decide) (c2)) ?_ | refine LOps.valH (LVal.call rfl rfl (by rw [hP]; exact Try.func14) rfl (by decide) (c3)) ?_ | refine LOps.valH (LVal.load hD rfl rfl k2 rfl (rdLeaf l)) ?_ | refine LWp.condT rfl ?_ | refine LOps.storeA (b := b4) (off := 0) (cs := leafL noLeaf) (l := leafL _) ?_ | refine LOps.valH (LVal.to (LVal.binOp hD rfl rfl rfl rfl) (r' := .one (.v (.bool true))) (congrArg (fun b => TV.one (.v (.bool b))) (by first | exact decide_eq_true (by omega) | (rw [beq_iff_eq]; omega) | (rw [bne_iff_ne]; omega)))) ?_ | refine LOps.valH (LVal.to (LVal.binOp hD rfl rfl rfl rfl) (r' := .one (.v (.bool false))) (congrArg (fun b => TV.one (.v (.bool b))) (by first | exact decide_eq_false (by omega) | (rw [beq_eq_false_iff_ne]; omega) | (rw [bne_eq_false_iff_eq]; omega)))) ?_ | refine LOps.valW ?_ | refine LOps.nil ?_ | refine andThen_normal ?_ | refine andThen_exit ?_ | refine andThen_ret ?_ | refine inBlock_normal ?_ | refine inBlock_ret ?_ | refine inBlock_here ?_ | refine inBlock_out rfl ?_ | refine LWp.seq ?_ | refine LWp.region ?_ | refine LWp.block ?_ | refine LWp.exit ?_ | refine LWp.ret ?_ | refine LWp.skip ?_ | refine LOps.val (LVal.call rfl rfl (by rw [hP]; exact Try.func12) rfl (by decide) (c1)) rfl rfl rfl ?_ | refine LOps.val (LVal.call rfl rfl (by rw [hP]; exact Try.func13) rfl (by decide) (c2)) rfl rfl rfl ?_ | refine LOps.val (LVal.call rfl rfl (by rw [hP]; exact Try.func14) rfl (by decide) (c3)) rfl rfl rfl ?_ | refine LOps.whenC (LVal.call rfl rfl (by rw [hP]; exact Try.func12) rfl (by decide) (c1)) ?_ | refine LOps.whenC (LVal.call rfl rfl (by rw [hP]; exact Try.func13) rfl (by decide) (c2)) ?_ | refine LOps.whenC (LVal.call rfl rfl (by rw [hP]; exact Try.func14) rfl (by decide) (c3)) ?_ | refine LOps.valA ?_ | refine LOps.outA ?_ | refine LOps.whenA ?_ | refine LOps.pickA ?_ | refine LOps.storeA ?_)
      exact ⟨_, putRes rfl t1 rfl rfl t2 rfl rfl rfl ((box_set_ne _ _ n4_5).trans ((box_set _ _ _).trans (congrArg some (stLeaf _ _)))) rfl (box_set _ _ _) rfl rfl, rfl, (hle.setBox s4 _).setBox s5 _⟩
end Go.Proofs.Ytgkjhlmfgaaddaa.LF
