/- The document's State; the walk of the law 'HistoryChecks'. -/
import Derived.Test.YtmdfjojohfhcgaaLHm
import Derived.Test.YtmdfjojohfhcgaaLHh
set_option linter.unusedVariables false
set_option linter.unusedSimpArgs false
namespace Go.Proofs.Ytmdfjojohfhcgaa.LF
open Go.RowKit

theorem findE_drop {l : List Ev} {m : Nat} (h : m < l.length) (k id : Int) : findE (l.drop m) k id = if isEv k id l[m] then l[m] else findE (l.drop (m + 1)) k id := by
  unfold findE
  rw [List.drop_eq_getElem_cons h]
  cases hq : isEv k id l[m] with
  | true => rw [List.find?_cons_of_pos hq]; simp
  | false => rw [List.find?_cons_of_neg (by rw [hq]; simp)]; simp
theorem has_count (l : List Ev) (k id : Int) : decide ((countS l k id : Int) > 0) = hasE l k id := by
  unfold hasE countS
  cases hq : l.find? (isEv k id) with
  | none =>
    have : l.countP (isEv k id) = 0 := List.countP_eq_zero.2 (List.find?_eq_none.1 hq)
    rw [this]; rfl
  | some e =>
    have : 0 < l.countP (isEv k id) := List.countP_pos_iff.2 ⟨e, List.mem_of_find?_eq_some hq, by simpa using List.find?_some hq⟩
    have h2 : ((l.countP (isEv k id) : Nat) : Int) > 0 := by omega
    rw [decide_eq_true h2]; rfl
theorem answer_find (l : List Ev) (id : Int) : answerS l id = (findE l 2 id).ans := by
  unfold answerS findE
  cases l.find? (isEv 2 id) <;> rfl

set_option maxHeartbeats 8000000 in
theorem refState_F {G : Ctx} (hP : G.P = Try.prog) (l : List Ev) (hl : l.length < 1000000) (id : Int) : LFun G 24 [.one (.sl .sh (l.map evL)), .one (iv id)] (stateT l id) := LFun.of fun S => by
  have hD : TabOK G.P D := by rw [hP]; exact hD0
  have hml : (l.map evL).length = l.length := List.length_map ..
  refine LCalls.enter (fn := Try.f24) (by rw [hP]; exact Try.func24) rfl rfl ?_
  repeat (first | refine LOps.nil ?_ | refine andThen_normal ?_ | refine andThen_exit ?_ | refine andThen_ret ?_ | refine inBlock_normal ?_ | refine inBlock_ret ?_ | refine inBlock_here ?_ | refine inBlock_out rfl ?_ | refine LWp.seq ?_ | refine LWp.region ?_ | refine LWp.block ?_ | refine LWp.exit ?_ | refine LWp.ret ?_ | refine LWp.skip ?_ | refine LOps.valA ?_ | refine LOps.outA ?_ | refine LOps.whenA ?_ | refine LOps.pickA ?_ | refine LOps.storeA ?_)
  refine LOps.do (LDo.alloc hD rfl rfl rfl) rfl rfl rfl ?_
  rintro _ _ ⟨b4, hb4, rfl, rfl⟩
  refine LOps.do (LDo.alloc hD rfl rfl rfl) rfl rfl rfl ?_
  rintro _ _ ⟨b5, hb5, rfl, rfl⟩
  have n45 : b4 ≠ b5 := fresh_ne hb5 (box_new _ _ _)
  have s4 : S.box b4 = none := hb4.box
  have s5 : S.box b5 = none := LS.le.none (LS.le.newBox (.refl _) hb4 _) hb5
  refine LOps.gen (fun S1 => S.le S1 ∧ S1.box b4 = some (lzero ti29) ∧ S1.box b5 = some (lzero ti32)) ⟨(LS.le.newBox (.refl _) hb4 _).newBox hb5 _, (box_new_ne _ _ n45).trans (box_new _ _ _), box_new _ _ _⟩ ?_
  clear hb4 hb5
  rintro S1 ⟨le1, k4, k5⟩
  repeat (first | refine LOps.nil ?_ | refine andThen_normal ?_ | refine andThen_exit ?_ | refine andThen_ret ?_ | refine inBlock_normal ?_ | refine inBlock_ret ?_ | refine inBlock_here ?_ | refine inBlock_out rfl ?_ | refine LWp.seq ?_ | refine LWp.region ?_ | refine LWp.block ?_ | refine LWp.exit ?_ | refine LWp.ret ?_ | refine LWp.skip ?_ | refine LOps.valA ?_ | refine LOps.outA ?_ | refine LOps.whenA ?_ | refine LOps.pickA ?_ | refine LOps.storeA ?_)
  refine LOps.do (LDo.alloc hD rfl rfl rfl) rfl rfl rfl ?_
  rintro _ _ ⟨b7, hb7, rfl, rfl⟩
  have n47 := fresh_ne hb7 k4
  have n57 := fresh_ne hb7 k5
  have s7 := le1.none hb7
  refine LOps.shBox (box_new _ _ _) ?_
  refine LOps.gen (fun S2 => S.le S2 ∧ S2.box b4 = some (lzero ti29) ∧ S2.box b5 = some (lzero ti32) ∧ S2.box b7 = some (opL noOp)) ⟨(le1.newBox hb7 _).setBox s7 _, (box_set_ne _ _ n47).trans ((box_new_ne _ _ n47).trans k4), (box_set_ne _ _ n57).trans ((box_new_ne _ _ n57).trans k5), box_set _ _ _⟩ ?_
  clear hb7 k4 k5 le1 S1
  rintro S2 ⟨le2, k4, k5, k7⟩
  repeat (first | refine LOps.nil ?_ | refine andThen_normal ?_ | refine andThen_exit ?_ | refine andThen_ret ?_ | refine inBlock_normal ?_ | refine inBlock_ret ?_ | refine inBlock_here ?_ | refine inBlock_out rfl ?_ | refine LWp.seq ?_ | refine LWp.region ?_ | refine LWp.block ?_ | refine LWp.exit ?_ | refine LWp.ret ?_ | refine LWp.skip ?_ | refine LOps.valA ?_ | refine LOps.outA ?_ | refine LOps.whenA ?_ | refine LOps.pickA ?_ | refine LOps.storeA ?_)
  refine LWp.loop (fun k T S' => ∃ (T' : Nat → TV) (z : Int), -1 ≤ z ∧ z < l.length ∧ k = (z + 1).toNat ∧ S.le S' ∧ S'.box b4 = some (lzero ti29) ∧ S'.box b5 = some (lzero ti32) ∧ S'.box b7 = some (opL (findE (l.drop (z + 1).toNat) 1 id).op) ∧
    T = over T' [(0, .one (.sl .sh (l.map evL))), (1, .one (iv id)), (4, .one (.v (.pointer (some ⟨b4, 0, none⟩)))), (5, .one (.v (.pointer (some ⟨b5, 0, none⟩)))), (7, .one (.v (.pointer (some ⟨b7, 0, none⟩)))), (8, .one (iv z))]) l.length ?_ ?_
  · refine ⟨_, (l.length : Int) - 1, by omega, by omega, by omega, le2, k4, k5, ?_, holds.over ⟨rfl, rfl, rfl, rfl, rfl, by show TV.one (iv (((l.map evL).length : Int) - 1)) = _; rw [List.length_map], trivial⟩⟩
    rw [List.drop_eq_nil_of_le (by omega)]; exact k7
  clear k4 k5 k7 le2 S2
  rintro k T S' ⟨T', z, hz0, hz1, rfl, le2, k4, k5, k7, rfl⟩
  repeat (first | refine LOps.nil ?_ | refine andThen_normal ?_ | refine andThen_exit ?_ | refine andThen_ret ?_ | refine inBlock_normal ?_ | refine inBlock_ret ?_ | refine inBlock_here ?_ | refine inBlock_out rfl ?_ | refine LWp.seq ?_ | refine LWp.region ?_ | refine LWp.block ?_ | refine LWp.exit ?_ | refine LWp.ret ?_ | refine LWp.skip ?_ | refine LOps.valA ?_ | refine LOps.outA ?_ | refine LOps.whenA ?_ | refine LOps.pickA ?_ | refine LOps.storeA ?_)
  refine LWp.cond rfl (fun h => ?_) (fun h => ?_)
  · obtain ⟨m, rfl⟩ : ∃ m : Nat, z = m := ⟨z.toNat, by have := of_decide_eq_true h; omega⟩
    have hlt : m < l.length := by omega
    have e1 : ((m : Int) + 1).toNat = m + 1 := by omega
    have e2 : ((m : Int) - 1 + 1).toNat = m := by omega
    rw [e1] at k7
    repeat (first | refine LOps.nil ?_ | refine andThen_normal ?_ | refine andThen_exit ?_ | refine andThen_ret ?_ | refine inBlock_normal ?_ | refine inBlock_ret ?_ | refine inBlock_here ?_ | refine inBlock_out rfl ?_ | refine LWp.seq ?_ | refine LWp.region ?_ | refine LWp.block ?_ | refine LWp.exit ?_ | refine LWp.ret ?_ | refine LWp.skip ?_ | refine LOps.valA ?_ | refine LOps.outA ?_ | refine LOps.whenA ?_ | refine LOps.pickA ?_ | refine LOps.storeA ?_)
    refine LWp.cond rfl (fun h => ?_) (fun h => ?_)
    · have h : isEv 1 id l[m] = true := h
      repeat (first | refine LOps.nil ?_ | refine andThen_normal ?_ | refine andThen_exit ?_ | refine andThen_ret ?_ | refine inBlock_normal ?_ | refine inBlock_ret ?_ | refine inBlock_here ?_ | refine inBlock_out rfl ?_ | refine LWp.seq ?_ | refine LWp.region ?_ | refine LWp.block ?_ | refine LWp.exit ?_ | refine LWp.ret ?_ | refine LWp.skip ?_ | refine LOps.valA ?_ | refine LOps.outA ?_ | refine LOps.whenA ?_ | refine LOps.pickA ?_ | refine LOps.storeA ?_)
      refine ⟨m, by omega, _, (m : Int) - 1, by omega, by omega, e2.symm, le2.setBox s7 _, (box_set_ne _ _ n47).trans k4, (box_set_ne _ _ n57).trans k5, ?_, holds.over ⟨rfl, rfl, rfl, rfl, rfl, rfl, trivial⟩⟩
      rw [e2, box_set, findE_drop hlt, if_pos h]; rfl
    · have h : isEv 1 id l[m] = false := h
      repeat (first | refine LOps.nil ?_ | refine andThen_normal ?_ | refine andThen_exit ?_ | refine andThen_ret ?_ | refine inBlock_normal ?_ | refine inBlock_ret ?_ | refine inBlock_here ?_ | refine inBlock_out rfl ?_ | refine LWp.seq ?_ | refine LWp.region ?_ | refine LWp.block ?_ | refine LWp.exit ?_ | refine LWp.ret ?_ | refine LWp.skip ?_ | refine LOps.valA ?_ | refine LOps.outA ?_ | refine LOps.whenA ?_ | refine LOps.pickA ?_ | refine LOps.storeA ?_)
      refine ⟨m, by omega, _, (m : Int) - 1, by omega, by omega, e2.symm, le2, k4, k5, ?_, holds.over ⟨rfl, rfl, rfl, rfl, rfl, rfl, trivial⟩⟩
      rw [e2, findE_drop hlt, if_neg (by rw [h]; simp)]; exact k7
  have hz : z = -1 := by have := of_decide_eq_false h; omega
  subst hz
  have k7 : S'.box b7 = some (opL (findE l 1 id).op) := k7
  repeat (first | refine LWp.seq (LWp.cut 8 (fun T1 S1 => S1 = S' ∧ ∃ T2, T1 = over T2 [(0, .one (.sl .sh (l.map evL))), (1, .one (iv id)), (4, .one (.v (.pointer (some ⟨b4, 0, none⟩)))), (5, .one (.v (.pointer (some ⟨b5, 0, none⟩)))), (7, .one (.v (.pointer (some ⟨b7, 0, none⟩)))), (9, .one (iv (stN (hasE l 1 id) (hasE l 2 id) (hasE l 3 id))))]) rfl ?_ ?_) | refine LOps.nil ?_ | refine andThen_normal ?_ | refine andThen_exit ?_ | refine andThen_ret ?_ | refine inBlock_normal ?_ | refine inBlock_ret ?_ | refine inBlock_here ?_ | refine inBlock_out rfl ?_ | refine LWp.seq ?_ | refine LWp.region ?_ | refine LWp.block ?_ | refine LWp.exit ?_ | refine LWp.ret ?_ | refine LWp.skip ?_ | refine LOps.valA ?_ | refine LOps.outA ?_ | refine LOps.whenA ?_ | refine LOps.pickA ?_ | refine LOps.storeA ?_)
  · repeat (first | refine LOps.nil ?_ | refine andThen_normal ?_ | refine andThen_exit ?_ | refine andThen_ret ?_ | refine inBlock_normal ?_ | refine inBlock_ret ?_ | refine inBlock_here ?_ | refine inBlock_out rfl ?_ | refine LWp.seq ?_ | refine LWp.region ?_ | refine LWp.block ?_ | refine LWp.exit ?_ | refine LWp.ret ?_ | refine LWp.skip ?_ | refine LOps.val (LVal.call rfl rfl (by rw [hP]; exact Try.func30) rfl (by decide) (count_F hP l hl _ _)) rfl rfl rfl ?_ | refine LOps.whenC (LVal.call rfl rfl (by rw [hP]; exact Try.func30) rfl (by decide) (count_F hP l hl _ _)) ?_ | refine LOps.valA ?_ | refine LOps.outA ?_ | refine LOps.whenA ?_ | refine LOps.pickA ?_ | refine LOps.storeA ?_)
    refine LWp.cond rfl (fun h => ?_) (fun h => ?_)
    · have h1 : hasE l 1 id = true := by rw [← has_count]; exact h
      repeat (first | refine LOps.nil ?_ | refine andThen_normal ?_ | refine andThen_exit ?_ | refine andThen_ret ?_ | refine inBlock_normal ?_ | refine inBlock_ret ?_ | refine inBlock_here ?_ | refine inBlock_out rfl ?_ | refine LWp.seq ?_ | refine LWp.region ?_ | refine LWp.block ?_ | refine LWp.exit ?_ | refine LWp.ret ?_ | refine LWp.skip ?_ | refine LOps.val (LVal.call rfl rfl (by rw [hP]; exact Try.func30) rfl (by decide) (count_F hP l hl _ _)) rfl rfl rfl ?_ | refine LOps.whenC (LVal.call rfl rfl (by rw [hP]; exact Try.func30) rfl (by decide) (count_F hP l hl _ _)) ?_ | refine LOps.valA ?_ | refine LOps.outA ?_ | refine LOps.whenA ?_ | refine LOps.pickA ?_ | refine LOps.storeA ?_)
      refine LWp.cond rfl (fun h => ?_) (fun h => ?_)
      · have h2 : hasE l 2 id = true := by rw [← has_count]; exact h
        repeat (first | refine LOps.nil ?_ | refine andThen_normal ?_ | refine andThen_exit ?_ | refine andThen_ret ?_ | refine inBlock_normal ?_ | refine inBlock_ret ?_ | refine inBlock_here ?_ | refine inBlock_out rfl ?_ | refine LWp.seq ?_ | refine LWp.region ?_ | refine LWp.block ?_ | refine LWp.exit ?_ | refine LWp.ret ?_ | refine LWp.skip ?_ | refine LOps.val (LVal.call rfl rfl (by rw [hP]; exact Try.func30) rfl (by decide) (count_F hP l hl _ _)) rfl rfl rfl ?_ | refine LOps.whenC (LVal.call rfl rfl (by rw [hP]; exact Try.func30) rfl (by decide) (count_F hP l hl _ _)) ?_ | refine LOps.valA ?_ | refine LOps.outA ?_ | refine LOps.whenA ?_ | refine LOps.pickA ?_ | refine LOps.storeA ?_)
        refine LWp.cond rfl (fun h => ?_) (fun h => ?_)
        · have h3 : hasE l 3 id = true := by rw [← has_count]; exact h
          repeat (first | refine LOps.nil ?_ | refine andThen_normal ?_ | refine andThen_exit ?_ | refine andThen_ret ?_ | refine inBlock_normal ?_ | refine inBlock_ret ?_ | refine inBlock_here ?_ | refine inBlock_out rfl ?_ | refine LWp.seq ?_ | refine LWp.region ?_ | refine LWp.block ?_ | refine LWp.exit ?_ | refine LWp.ret ?_ | refine LWp.skip ?_ | refine LOps.valA ?_ | refine LOps.outA ?_ | refine LOps.whenA ?_ | refine LOps.pickA ?_ | refine LOps.storeA ?_)
          exact ⟨rfl, _, holds.over ⟨rfl, rfl, rfl, rfl, rfl, by rw [h1, h2, h3]; rfl, trivial⟩⟩
        · have h3 : hasE l 3 id = false := by rw [← has_count]; exact h
          repeat (first | refine LOps.nil ?_ | refine andThen_normal ?_ | refine andThen_exit ?_ | refine andThen_ret ?_ | refine inBlock_normal ?_ | refine inBlock_ret ?_ | refine inBlock_here ?_ | refine inBlock_out rfl ?_ | refine LWp.seq ?_ | refine LWp.region ?_ | refine LWp.block ?_ | refine LWp.exit ?_ | refine LWp.ret ?_ | refine LWp.skip ?_ | refine LOps.valA ?_ | refine LOps.outA ?_ | refine LOps.whenA ?_ | refine LOps.pickA ?_ | refine LOps.storeA ?_)
          exact ⟨rfl, _, holds.over ⟨rfl, rfl, rfl, rfl, rfl, by rw [h1, h2, h3]; rfl, trivial⟩⟩
      · have h2 : hasE l 2 id = false := by rw [← has_count]; exact h
        repeat (first | refine LOps.nil ?_ | refine andThen_normal ?_ | refine andThen_exit ?_ | refine andThen_ret ?_ | refine inBlock_normal ?_ | refine inBlock_ret ?_ | refine inBlock_here ?_ | refine inBlock_out rfl ?_ | refine LWp.seq ?_ | refine LWp.region ?_ | refine LWp.block ?_ | refine LWp.exit ?_ | refine LWp.ret ?_ | refine LWp.skip ?_ | refine LOps.valA ?_ | refine LOps.outA ?_ | refine LOps.whenA ?_ | refine LOps.pickA ?_ | refine LOps.storeA ?_)
        exact ⟨rfl, _, holds.over ⟨rfl, rfl, rfl, rfl, rfl, by rw [h1, h2]; rfl, trivial⟩⟩
    · have h1 : hasE l 1 id = false := by rw [← has_count]; exact h
      repeat (first | refine LOps.nil ?_ | refine andThen_normal ?_ | refine andThen_exit ?_ | refine andThen_ret ?_ | refine inBlock_normal ?_ | refine inBlock_ret ?_ | refine inBlock_here ?_ | refine inBlock_out rfl ?_ | refine LWp.seq ?_ | refine LWp.region ?_ | refine LWp.block ?_ | refine LWp.exit ?_ | refine LWp.ret ?_ | refine LWp.skip ?_ | refine LOps.valA ?_ | refine LOps.outA ?_ | refine LOps.whenA ?_ | refine LOps.pickA ?_ | refine LOps.storeA ?_)
      exact ⟨rfl, _, holds.over ⟨rfl, rfl, rfl, rfl, rfl, by rw [h1]; rfl, trivial⟩⟩
  rintro T1 S1 ⟨rfl, T2, rfl⟩
  have n74 : b7 ≠ b4 := n47.symm
  have n75 : b7 ≠ b5 := n57.symm
  have hans := answer_F hP l hl id
  repeat (first | refine LOps.nil ?_ | refine andThen_normal ?_ | refine andThen_exit ?_ | refine andThen_ret ?_ | refine inBlock_normal ?_ | refine inBlock_ret ?_ | refine inBlock_here ?_ | refine inBlock_out rfl ?_ | refine LWp.seq ?_ | refine LWp.region ?_ | refine LWp.block ?_ | refine LWp.exit ?_ | refine LWp.ret ?_ | refine LWp.skip ?_ | refine LOps.valA ?_ | refine LOps.outA ?_ | refine LOps.whenA ?_ | refine LOps.pickA ?_ | refine LOps.storeA ?_)
  refine LWp.drawX (fun b => b = b4 ∨ b = b5) [0, 1, 2, 3, 4, 5, 6, 7] (by rw [hP]; rfl) rfl ?_
  repeat (first | refine LRl.valC (fun _ => (LVal.call rfl rfl (by rw [hP]; exact Try.func14) rfl (by decide) (hans))) ?_ | refine LRl.whenC (fun _ => (LVal.call rfl rfl (by rw [hP]; exact Try.func14) rfl (by decide) (hans))) ?_ | refine LRl.nil ?_ | refine LRl.valA ?_ | refine LRl.outA ?_ | refine LRl.whenA ?_ | refine LRl.pickA ?_)
  refine LRl.act0 (LDo.store hD rfl rfl k4 rfl rfl rfl rfl) rfl rfl rfl (by rintro _ _ ⟨_, rfl⟩; exact .inl (.setBox (.inl rfl) _)) ?_
  rintro _ _ ⟨rfl, rfl⟩
  refine LRl.act0 (LDo.store hD rfl rfl ((box_set_ne _ _ n45.symm).trans k5) rfl rfl rfl rfl) rfl rfl rfl (by rintro _ _ ⟨_, rfl⟩; exact .inl (.setBox (.inr rfl) _)) ?_
  rintro _ _ ⟨rfl, rfl⟩
  repeat (first | refine LRl.nil ?_ | refine LRl.valA ?_ | refine LRl.outA ?_ | refine LRl.whenA ?_ | refine LRl.pickA ?_)
  repeat (first | refine LOps.nil ?_ | refine andThen_normal ?_ | refine andThen_exit ?_ | refine andThen_ret ?_ | refine inBlock_normal ?_ | refine inBlock_ret ?_ | refine inBlock_here ?_ | refine inBlock_out rfl ?_ | refine LWp.seq ?_ | refine LWp.region ?_ | refine LWp.block ?_ | refine LWp.exit ?_ | refine LWp.ret ?_ | refine LWp.skip ?_ | refine LOps.valA ?_ | refine LOps.outA ?_ | refine LOps.whenA ?_ | refine LOps.pickA ?_ | refine LOps.storeA ?_)
  refine ⟨_, LRes.sh (LRes.many rfl rfl (.cons (.cell rfl ((box_set_ne _ _ n45).trans (box_set _ _ _)) (hP ▸ tok29) rfl) (.cons (.cell rfl (box_set _ _ _) (hP ▸ tok32) rfl) (.cons (.tmp 6) .nil)))), ?_, (le2.setBox s4 _).setBox s5 _⟩
  unfold stateT
  rw [← answer_find]; rfl

theorem isTrue (x : Bool) (h : x = true) : TV.one (LV.v (Value.bool x)) = .one (bv true) := by rw [h]
theorem wakes_F {G : Ctx} (hP : G.P = Try.prog) : LFun G 9 [] (.one (bv true)) := LFun.of fun S => wakes_L hP S

set_option maxHeartbeats 8000000 in
theorem checks_L {G : Ctx} (hP : G.P = Try.prog) (l : List Ev) (a b : Int) (S : LS) :
    LCalls G 6 [.one (.sl .sh (l.map evL)), .one (iv a), .one (iv b)] (fun r _ => r = .one (bv true)) S := by
  have hD : TabOK G.P D := by rw [hP]; exact hD0
  have ea : EqTy G.P D 32 := by rw [hP]; exact eqAns
  refine LCalls.enter (fn := Try.f6) (by rw [hP]; exact Try.func6) rfl rfl ?_
  repeat (first | refine LOps.nil ?_ | refine andThen_normal ?_ | refine andThen_exit ?_ | refine andThen_ret ?_ | refine inBlock_normal ?_ | refine inBlock_ret ?_ | refine inBlock_here ?_ | refine inBlock_out rfl ?_ | refine LWp.seq ?_ | refine LWp.region ?_ | refine LWp.block ?_ | refine LWp.exit ?_ | refine LWp.ret ?_ | refine LWp.skip ?_ | refine LOps.val (LVal.call rfl rfl (by rw [hP]; exact Try.func8) rfl (by decide) (great_F hP l)) rfl rfl rfl ?_ | refine LOps.whenC (LVal.call rfl rfl (by rw [hP]; exact Try.func8) rfl (by decide) (great_F hP l)) ?_ | refine LOps.valA ?_ | refine LOps.outA ?_ | refine LOps.whenA ?_ | refine LOps.pickA ?_ | refine LOps.storeA ?_)
  refine LWp.cond rfl (fun h => ?_) (fun h => ?_)
  · repeat (first | refine LOps.nil ?_ | refine andThen_normal ?_ | refine andThen_exit ?_ | refine andThen_ret ?_ | refine inBlock_normal ?_ | refine inBlock_ret ?_ | refine inBlock_here ?_ | refine inBlock_out rfl ?_ | refine LWp.seq ?_ | refine LWp.region ?_ | refine LWp.block ?_ | refine LWp.exit ?_ | refine LWp.ret ?_ | refine LWp.skip ?_ | refine LOps.valA ?_ | refine LOps.outA ?_ | refine LOps.whenA ?_ | refine LOps.pickA ?_ | refine LOps.storeA ?_)
    refine LOps.do (LDo.callF (wakes_L hP _) (by rw [hP]; exact Try.func9)) rfl rfl rfl ?_
    rintro _ S1 ⟨rfl, _⟩
    repeat (first | refine LOps.nil ?_ | refine andThen_normal ?_ | refine andThen_exit ?_ | refine andThen_ret ?_ | refine inBlock_normal ?_ | refine inBlock_ret ?_ | refine inBlock_here ?_ | refine inBlock_out rfl ?_ | refine LWp.seq ?_ | refine LWp.region ?_ | refine LWp.block ?_ | refine LWp.exit ?_ | refine LWp.ret ?_ | refine LWp.skip ?_ | refine LOps.valA ?_ | refine LOps.outA ?_ | refine LOps.whenA ?_ | refine LOps.pickA ?_ | refine LOps.storeA ?_)
    exact ⟨_, LRes.one rfl, rfl⟩
  obtain ⟨hl, hlw⟩ := great_no h
  have hst := state_F hP l (by omega) (fun e he => by have := hlw e he; omega) a
  have hrs := refState_F hP l (by omega) a
  repeat (first | refine LOps.nil ?_ | refine andThen_normal ?_ | refine andThen_exit ?_ | refine andThen_ret ?_ | refine inBlock_normal ?_ | refine inBlock_ret ?_ | refine inBlock_here ?_ | refine inBlock_out rfl ?_ | refine LWp.seq ?_ | refine LWp.region ?_ | refine LWp.block ?_ | refine LWp.exit ?_ | refine LWp.ret ?_ | refine LWp.skip ?_ | refine LOps.val (LVal.call rfl rfl (by rw [hP]; exact Try.func18) rfl (by decide) (check_F hP l (by omega))) rfl rfl rfl ?_ | refine LOps.val (LVal.call rfl rfl (by rw [hP]; exact Try.func22) rfl (by decide) (refCheck_F hP l (by omega))) rfl rfl rfl ?_ | refine LOps.val (LVal.call rfl rfl (by rw [hP]; exact Try.func23) rfl (by decide) (hst)) rfl rfl rfl ?_ | refine LOps.whenC (LVal.call rfl rfl (by rw [hP]; exact Try.func18) rfl (by decide) (check_F hP l (by omega))) ?_ | refine LOps.whenC (LVal.call rfl rfl (by rw [hP]; exact Try.func22) rfl (by decide) (refCheck_F hP l (by omega))) ?_ | refine LOps.whenC (LVal.call rfl rfl (by rw [hP]; exact Try.func23) rfl (by decide) (hst)) ?_ | refine LOps.valA ?_ | refine LOps.outA ?_ | refine LOps.whenA ?_ | refine LOps.pickA ?_ | refine LOps.storeA ?_)
  refine LOps.do (LDo.alloc hD rfl rfl rfl) rfl rfl rfl ?_
  rintro _ _ ⟨b11, hb11, rfl, rfl⟩
  refine LOps.do (LDo.alloc hD rfl rfl rfl) rfl rfl rfl ?_
  rintro _ _ ⟨b12, hb12, rfl, rfl⟩
  have n1 : b11 ≠ b12 := fresh_ne hb12 (box_new _ _ _)
  have n1' := n1.symm
  repeat (first | refine LOps.gen (fun S1 => S1.box b11 = some (opL (findE l 1 a).op) ∧ S1.box b12 = some (ansL (findE l 2 a).ans)) ⟨(box_set_ne _ _ n1).trans (box_set _ _ _), box_set _ _ _⟩ ?_ | refine LOps.nil ?_ | refine andThen_normal ?_ | refine andThen_exit ?_ | refine andThen_ret ?_ | refine inBlock_normal ?_ | refine inBlock_ret ?_ | refine inBlock_here ?_ | refine inBlock_out rfl ?_ | refine LWp.seq ?_ | refine LWp.region ?_ | refine LWp.block ?_ | refine LWp.exit ?_ | refine LWp.ret ?_ | refine LWp.skip ?_ | refine LOps.valA ?_ | refine LOps.outA ?_ | refine LOps.whenA ?_ | refine LOps.pickA ?_ | refine LOps.storeA ?_)
  clear hb11 hb12
  rintro S1 ⟨k11, k12⟩
  repeat (first | refine LOps.nil ?_ | refine andThen_normal ?_ | refine andThen_exit ?_ | refine andThen_ret ?_ | refine inBlock_normal ?_ | refine inBlock_ret ?_ | refine inBlock_here ?_ | refine inBlock_out rfl ?_ | refine LWp.seq ?_ | refine LWp.region ?_ | refine LWp.block ?_ | refine LWp.exit ?_ | refine LWp.ret ?_ | refine LWp.skip ?_ | refine LOps.val (LVal.call rfl rfl (by rw [hP]; exact Try.func24) rfl (by decide) (hrs)) rfl rfl rfl ?_ | refine LOps.whenC (LVal.call rfl rfl (by rw [hP]; exact Try.func24) rfl (by decide) (hrs)) ?_ | refine LOps.valA ?_ | refine LOps.outA ?_ | refine LOps.whenA ?_ | refine LOps.pickA ?_ | refine LOps.storeA ?_)
  refine LOps.do (LDo.alloc hD rfl rfl rfl) rfl rfl rfl ?_
  rintro _ _ ⟨b14, hb14, rfl, rfl⟩
  refine LOps.do (LDo.alloc hD rfl rfl rfl) rfl rfl rfl ?_
  rintro _ _ ⟨b15, hb15, rfl, rfl⟩
  have n2 : b14 ≠ b15 := fresh_ne hb15 (box_new _ _ _)
  have n2' := n2.symm
  have m1 := fresh_ne hb14 k11
  have m2 := fresh_ne hb14 k12
  have m3 := fresh_ne hb15 ((box_new_ne _ (lzero ti29) m1).trans k11)
  have m4 := fresh_ne hb15 ((box_new_ne _ (lzero ti29) m2).trans k12)
  repeat (first | refine LOps.gen (fun S1 => S1.box b11 = some (opL (findE l 1 a).op) ∧ S1.box b12 = some (ansL (findE l 2 a).ans) ∧ S1.box b14 = some (opL (findE l 1 a).op) ∧ S1.box b15 = some (ansL (findE l 2 a).ans)) ⟨(box_set_ne _ _ m3).trans ((box_set_ne _ _ m1).trans ((box_new_ne _ _ m3).trans ((box_new_ne _ _ m1).trans k11))), (box_set_ne _ _ m4).trans ((box_set_ne _ _ m2).trans ((box_new_ne _ _ m4).trans ((box_new_ne _ _ m2).trans k12))), (box_set_ne _ _ n2).trans (box_set _ _ _), box_set _ _ _⟩ ?_ | refine LOps.nil ?_ | refine andThen_normal ?_ | refine andThen_exit ?_ | refine andThen_ret ?_ | refine inBlock_normal ?_ | refine inBlock_ret ?_ | refine inBlock_here ?_ | refine inBlock_out rfl ?_ | refine LWp.seq ?_ | refine LWp.region ?_ | refine LWp.block ?_ | refine LWp.exit ?_ | refine LWp.ret ?_ | refine LWp.skip ?_ | refine LOps.valA ?_ | refine LOps.outA ?_ | refine LOps.whenA ?_ | refine LOps.pickA ?_ | refine LOps.storeA ?_)
  clear hb14 hb15 k11 k12
  rintro S1 ⟨k11, k12, k14, k15⟩
  have hsi := sameInts_F hP (marksS l) (marksS l) (Nat.lt_of_le_of_lt (marks_len l) (by omega))
  have hso := sameOp_F hP (findE l 1 a).op (findE l 1 a).op (Nat.lt_of_le_of_lt (findE_ws hlw 1 a) (by omega))
  repeat (first | refine LOps.nil ?_ | refine andThen_normal ?_ | refine andThen_exit ?_ | refine andThen_ret ?_ | refine inBlock_normal ?_ | refine inBlock_ret ?_ | refine inBlock_here ?_ | refine inBlock_out rfl ?_ | refine LWp.seq ?_ | refine LWp.region ?_ | refine LWp.block ?_ | refine LWp.exit ?_ | refine LWp.ret ?_ | refine LWp.skip ?_ | refine LOps.val (LVal.call rfl rfl (by rw [hP]; exact Try.func19) rfl (by decide) (marks_F hP l (by omega))) rfl rfl rfl ?_ | refine LOps.val (LVal.call rfl rfl (by rw [hP]; exact Try.func26) rfl (by decide) (refMarks_F hP l (by omega))) rfl rfl rfl ?_ | refine LOps.val (LVal.call rfl rfl (by rw [hP]; exact Try.func25) rfl (by decide) (hsi)) rfl rfl rfl ?_ | refine LOps.val (LVal.call rfl rfl (by rw [hP]; exact Try.func27) rfl (by decide) (hso)) rfl rfl rfl ?_ | refine LOps.val (LVal.call rfl rfl (by rw [hP]; exact Try.func20) rfl (by decide) (ahead_F hP l (by omega) _ _)) rfl rfl rfl ?_ | refine LOps.val (LVal.call rfl rfl (by rw [hP]; exact Try.func28) rfl (by decide) (refAhead_F hP l (by omega) _ _)) rfl rfl rfl ?_ | refine LOps.val (LVal.call rfl rfl (by rw [hP]; exact Try.func9) rfl (by decide) (wakes_F hP)) rfl rfl rfl ?_ | refine LOps.whenC (LVal.call rfl rfl (by rw [hP]; exact Try.func19) rfl (by decide) (marks_F hP l (by omega))) ?_ | refine LOps.whenC (LVal.call rfl rfl (by rw [hP]; exact Try.func26) rfl (by decide) (refMarks_F hP l (by omega))) ?_ | refine LOps.whenC (LVal.call rfl rfl (by rw [hP]; exact Try.func25) rfl (by decide) (hsi)) ?_ | refine LOps.whenC (LVal.call rfl rfl (by rw [hP]; exact Try.func27) rfl (by decide) (hso)) ?_ | refine LOps.whenC (LVal.call rfl rfl (by rw [hP]; exact Try.func20) rfl (by decide) (ahead_F hP l (by omega) _ _)) ?_ | refine LOps.whenC (LVal.call rfl rfl (by rw [hP]; exact Try.func28) rfl (by decide) (refAhead_F hP l (by omega) _ _)) ?_ | refine LOps.whenC (LVal.call rfl rfl (by rw [hP]; exact Try.func9) rfl (by decide) (wakes_F hP)) ?_ | refine LOps.valA ?_ | refine LOps.outA ?_ | refine LOps.whenA ?_ | refine LOps.pickA ?_ | refine LOps.storeA ?_)
  exact ⟨_, LRes.one rfl, isTrue _ (by simp)⟩
end Go.Proofs.Ytmdfjojohfhcgaa.LF
namespace Go.Proofs.Ytmdfjojohfhcgaa
open Go.RowKit LF
theorem historyChecks_walk (W : World) (v0 : Value) (l0 : List LV) (y0 : Typed LF.D 22 l0) (g0 : RepT (G0 Try.prog W) W (allCells W) (argTV ti22 l0) v0)
    (v1 : Value) (l1 : List LV) (y1 : Typed LF.D 3 l1) (g1 : RepT (G0 Try.prog W) W (allCells W) (argTV ti3 l1) v1) (v2 : Value) (l2 : List LV) (y2 : Typed LF.D 3 l2) (g2 : RepT (G0 Try.prog W) W (allCells W) (argTV ti3 l2) v2) :
    Calls Try.prog 6 #[v0, v1, v2] W fun e W' => e = .returned (.bool true) ∧ Below W.heap.size W W' := by
  obtain ⟨l, rfl⟩ := typed_evs y0
  obtain ⟨a, rfl, _⟩ := typed_int rfl rfl y1
  obtain ⟨b, rfl, _⟩ := typed_int rfl rfl y2
  exact law_calls (fun G S h => checks_L h l a b S) (.cons (vs := [v1, v2]) g0 (.cons (vs := [v2]) g1 (.cons (vs := []) g2 .nil)))
end Go.Proofs.Ytmdfjojohfhcgaa
