/- The document's map: the walks of Get, Without, With, New, next, All, Same, Refused. -/
import Derived.Test.YtndcdmmmfplbbaaLOg
set_option linter.unusedVariables false
set_option linter.unusedSimpArgs false
namespace Go.Proofs.Ytndcdmmmfplbbaa.LF
open Go.RowKit
set_option linter.unusedVariables false

theorem prL_inj {l m : List Pr} (h : l.map prL = m.map prL) : l = m := by
  have key : ∀ p q : Pr, prL p = prL q → p = q := fun p q e => by
    cases p; cases q
    simp only [prL, List.cons.injEq, LV.v.injEq, Value.string.injEq, and_true] at e
    rw [e.1, e.2]
  induction l generalizing m with
  | nil => cases m with
    | nil => rfl
    | cons q m => cases h
  | cons p l ih => cases m with
    | nil => cases h
    | cons q m =>
      rw [List.map_cons, List.map_cons, List.cons.injEq] at h
      rw [key p q h.1, ih h.2]
theorem LCalls.shR {G : Ctx} {f : FuncId} {args : List TV} {Q Q' : TV → LS → Prop} {S : LS} (h : LCalls G f args Q S) (hq : ∀ r S', Q r S' → Q' (shTV r) S') : LCalls G f args Q' S :=
  fun K w vals h1 h2 => (h K w vals h1 h2).mono fun e w' ⟨r, v, S', K', e1, e2, e3, e4, e5⟩ => ⟨shTV r, v, S', K', e1, e2.shTV, e3, e4, hq r S' e5⟩
theorem mapOwn {G : Ctx} (hP : G.P = Try.prog) {n : Nat} {fn : Func} {T : Nat → TV} {S : LS} {a : Tmp} {b : Nat} {o : Own} {es : List (List LV)} (hf : fn.results = #[.cell a 29]) (ha : T a = ptr b) (hb : S.box b = some [.sl o es]) : LRes G n fn T S (.agg [.sl o es]) :=
  LRes.cell hf (.cell ha hb (hP ▸ tok29) rfl)
theorem mapRes {G : Ctx} (hP : G.P = Try.prog) {n : Nat} {fn : Func} {T : Nat → TV} {S : LS} {a : Tmp} {b : Nat} {o : Own} {es : List (List LV)} (hf : fn.results = #[.cell a 29]) (ha : T a = ptr b) (hb : S.box b = some [.sl o es]) : LRes G n fn T S (.agg [.sl .sh es]) :=
  LRes.sh (r := .agg [.sl o es]) (LRes.cell hf (.cell ha hb (hP ▸ tok29) rfl))

set_option maxHeartbeats 1000000 in
theorem getW_F {G : Ctx} (hP : G.P = Try.prog) (w : List Pr) (hl : w.length ≤ 1000000) (k : ByteArray) : LFun G 32 [.agg (mapW w), .one (sv k)] (.tup [.one (sv (oldW w k)), .one (bv (findW w k).isSome)]) := LFun.of fun S => by
  have hD : TabOK G.P D := by rw [hP]; exact hD0
  have hml : (w.map prL).length = w.length := List.length_map ..
  refine LCalls.enter (fn := Try.f32) (by rw [hP]; exact Try.func32) rfl rfl ?_
  repeat (first | refine LOps.nil ?_ | refine andThen_normal ?_ | refine andThen_exit ?_ | refine andThen_ret ?_ | refine inBlock_normal ?_ | refine inBlock_ret ?_ | refine inBlock_here ?_ | refine inBlock_out rfl ?_ | refine LWp.seq ?_ | refine LWp.region ?_ | refine LWp.block ?_ | refine LWp.exit ?_ | refine LWp.ret ?_ | refine LWp.skip ?_ | refine LOps.valA ?_ | refine LOps.outA ?_ | refine LOps.whenA ?_ | refine LOps.pickA ?_ | refine LOps.storeA ?_)
  refine LOps.do (LDo.box rfl rfl) rfl rfl rfl ?_
  rintro _ _ ⟨b2, hb2, rfl, rfl⟩
  have k2 := box_new S b2 (mapW w)
  have hle := LS.le.newBox (.refl S) hb2 (mapW w)
  refine LOps.gen (fun S1 => S.le S1 ∧ S1.box b2 = some (mapW w)) ⟨hle, k2⟩ ?_
  clear k2 hle hb2
  rintro S1 ⟨hle, k2⟩
  repeat (first | refine LOps.nil ?_ | refine andThen_normal ?_ | refine andThen_exit ?_ | refine andThen_ret ?_ | refine inBlock_normal ?_ | refine inBlock_ret ?_ | refine inBlock_here ?_ | refine inBlock_out rfl ?_ | refine LWp.seq ?_ | refine LWp.region ?_ | refine LWp.block ?_ | refine LWp.exit ?_ | refine LWp.ret ?_ | refine LWp.skip ?_ | refine LOps.valA ?_ | refine LOps.outA ?_ | refine LOps.whenA ?_ | refine LOps.pickA ?_ | refine LOps.storeA ?_)
  refine LWp.loop (fun m T S' => S' = S1 ∧ ∃ (T' : Nat → TV) (j : Nat), j ≤ w.length ∧ m = w.length - j ∧ (∀ (i : Nat) (hi : i < j) (hl : i < w.length), w[i].key ≠ k) ∧ T = over T' [(1, .one (sv k)), (2, ptr b2), (6, .one (iv (j : Nat)))]) w.length ?_ ?_
  · exact ⟨rfl, _, 0, by omega, by omega, fun i hi => by omega, holds.over ⟨rfl, rfl, rfl, trivial⟩⟩
  rintro m T S' ⟨rfl, T', j, hj, rfl, hno, rfl⟩
  repeat (first | refine LOps.nil ?_ | refine andThen_normal ?_ | refine andThen_exit ?_ | refine andThen_ret ?_ | refine inBlock_normal ?_ | refine inBlock_ret ?_ | refine inBlock_here ?_ | refine inBlock_out rfl ?_ | refine LWp.seq ?_ | refine LWp.region ?_ | refine LWp.block ?_ | refine LWp.exit ?_ | refine LWp.ret ?_ | refine LWp.skip ?_ | refine LOps.valA ?_ | refine LOps.outA ?_ | refine LOps.whenA ?_ | refine LOps.pickA ?_ | refine LOps.storeA ?_)
  refine LWp.cond rfl (fun h => ?_) (fun h => ?_)
  · have hlt : j < w.length := by simp at h; omega
    repeat (first | refine LOps.nil ?_ | refine andThen_normal ?_ | refine andThen_exit ?_ | refine andThen_ret ?_ | refine inBlock_normal ?_ | refine inBlock_ret ?_ | refine inBlock_here ?_ | refine inBlock_out rfl ?_ | refine LWp.seq ?_ | refine LWp.region ?_ | refine LWp.block ?_ | refine LWp.exit ?_ | refine LWp.ret ?_ | refine LWp.skip ?_ | refine LOps.valA ?_ | refine LOps.outA ?_ | refine LOps.whenA ?_ | refine LOps.pickA ?_ | refine LOps.storeA ?_)
    refine LWp.cond rfl (fun h => ?_) (fun h => ?_)
    · have h : decide (w[j].key = k) = true := h
      have e : findW w k = some w[j] := by
        unfold findW
        rw [List.find?_eq_some_iff_getElem]
        exact ⟨h, j, hlt, rfl, fun i hi => by simpa using hno i hi (by omega)⟩
      repeat (first | refine LOps.nil ?_ | refine andThen_normal ?_ | refine andThen_exit ?_ | refine andThen_ret ?_ | refine inBlock_normal ?_ | refine inBlock_ret ?_ | refine inBlock_here ?_ | refine inBlock_out rfl ?_ | refine LWp.seq ?_ | refine LWp.region ?_ | refine LWp.block ?_ | refine LWp.exit ?_ | refine LWp.ret ?_ | refine LWp.skip ?_ | refine LOps.valA ?_ | refine LOps.outA ?_ | refine LOps.whenA ?_ | refine LOps.pickA ?_ | refine LOps.storeA ?_)
      exact ⟨_, LRes.two rfl, by rw [oldW, e]; rfl, hle⟩
    · have h : decide (w[j].key = k) = false := h
      repeat (first | refine LOps.nil ?_ | refine andThen_normal ?_ | refine andThen_exit ?_ | refine andThen_ret ?_ | refine inBlock_normal ?_ | refine inBlock_ret ?_ | refine inBlock_here ?_ | refine inBlock_out rfl ?_ | refine LWp.seq ?_ | refine LWp.region ?_ | refine LWp.block ?_ | refine LWp.exit ?_ | refine LWp.ret ?_ | refine LWp.skip ?_ | refine LOps.valA ?_ | refine LOps.outA ?_ | refine LOps.whenA ?_ | refine LOps.pickA ?_ | refine LOps.storeA ?_)
      refine ⟨w.length - (j + 1), by omega, rfl, _, j + 1, by omega, rfl, fun i hi hl => ?_, holds.over ⟨rfl, rfl, rfl, trivial⟩⟩
      rcases Nat.lt_or_ge i j with h1 | h1
      · exact hno i h1 hl
      · obtain rfl : i = j := by omega
        simpa using h
  · have hge : j = w.length := by simp at h; omega
    subst hge
    have e : findW w k = none := by
      unfold findW
      rw [List.find?_eq_none]
      intro p hp
      obtain ⟨i, hi, rfl⟩ := List.getElem_of_mem hp
      simpa using hno i hi hi
    repeat (first | refine LOps.nil ?_ | refine andThen_normal ?_ | refine andThen_exit ?_ | refine andThen_ret ?_ | refine inBlock_normal ?_ | refine inBlock_ret ?_ | refine inBlock_here ?_ | refine inBlock_out rfl ?_ | refine LWp.seq ?_ | refine LWp.region ?_ | refine LWp.block ?_ | refine LWp.exit ?_ | refine LWp.ret ?_ | refine LWp.skip ?_ | refine LOps.valA ?_ | refine LOps.outA ?_ | refine LOps.whenA ?_ | refine LOps.pickA ?_ | refine LOps.storeA ?_)
    exact ⟨_, LRes.two rfl, by rw [oldW, e]; rfl, hle⟩

theorem withoutW_take {w : List Pr} {k : ByteArray} {j : Nat} (h : j < w.length) : withoutW (w.take (j + 1)) k = withoutW (w.take j) k ++ (if w[j].key = k then [] else [w[j]]) := by
  unfold withoutW
  rw [List.take_succ_eq_append_getElem h, List.filter_append]
  congr 1
  by_cases e : w[j].key = k <;> simp [e]
theorem withoutW_take_length (w : List Pr) (k : ByteArray) (j : Nat) : (withoutW (w.take j) k).length ≤ w.length := by
  have := withoutW_length (w.take j) k
  rw [List.length_take] at this; omega

set_option maxHeartbeats 2000000 in
theorem withoutW_L {G : Ctx} (hP : G.P = Try.prog) (w : List Pr) (hl : w.length ≤ 1000000) (k : ByteArray) (S : LS) : LCalls G 33 [.agg (mapW w), .one (sv k)] (fun r S' => ∃ o, r = .agg [.sl o ((withoutW w k).map prL)] ∧ S.le S' ∧ Owned S' 50 (withoutW w k).length o ∧ Out S o) S := by
  have hD : TabOK G.P D := by rw [hP]; exact hD0
  have hml : (w.map prL).length = w.length := List.length_map ..
  refine LCalls.enter (fn := Try.f33) (by rw [hP]; exact Try.func33) rfl rfl ?_
  repeat (first | refine LOps.nil ?_ | refine andThen_normal ?_ | refine andThen_exit ?_ | refine andThen_ret ?_ | refine inBlock_normal ?_ | refine inBlock_ret ?_ | refine inBlock_here ?_ | refine inBlock_out rfl ?_ | refine LWp.seq ?_ | refine LWp.region ?_ | refine LWp.block ?_ | refine LWp.exit ?_ | refine LWp.ret ?_ | refine LWp.skip ?_ | refine LOps.valA ?_ | refine LOps.outA ?_ | refine LOps.whenA ?_ | refine LOps.pickA ?_ | refine LOps.storeA ?_)
  have hle := LS.le.refl S
  refine LOps.do (LDo.box rfl rfl) rfl rfl rfl ?_
  rintro _ _ ⟨b2, hb2, rfl, rfl⟩
  have s2 := hle.none hb2
  refine LOps.gen (fun S' => S.le S' ∧ S'.box b2 = some (mapW w)) ⟨hle.newBox hb2 _, box_new _ _ _⟩ ?_
  clear hle hb2 
  rintro S2 ⟨hle, k2⟩
  skip
  refine LOps.do (LDo.alloc hD rfl rfl rfl) rfl rfl rfl ?_
  rintro _ _ ⟨b4, hb4, rfl, rfl⟩
  have n2_4 := fresh_ne hb4 k2
  have m4_2 := n2_4.symm
  have s4 := hle.none hb4
  refine LOps.gen (fun S' => S.le S' ∧ S'.box b2 = some (mapW w) ∧ S'.box b4 = some ([.sl .nil []])) ⟨hle.newBox hb4 _, (box_new_ne _ _ n2_4).trans k2, box_new _ _ _⟩ ?_
  clear hle hb4 k2
  rintro S4 ⟨hle, k2, k4⟩
  repeat (first | refine LOps.nil ?_ | refine andThen_normal ?_ | refine andThen_exit ?_ | refine andThen_ret ?_ | refine inBlock_normal ?_ | refine inBlock_ret ?_ | refine inBlock_here ?_ | refine inBlock_out rfl ?_ | refine LWp.seq ?_ | refine LWp.region ?_ | refine LWp.block ?_ | refine LWp.exit ?_ | refine LWp.ret ?_ | refine LWp.skip ?_ | refine LOps.valA ?_ | refine LOps.outA ?_ | refine LOps.whenA ?_ | refine LOps.pickA ?_ | refine LOps.storeA ?_)
  skip
  refine LOps.do (LDo.alloc hD rfl rfl rfl) rfl rfl rfl ?_
  rintro _ _ ⟨b5, hb5, rfl, rfl⟩
  have n2_5 := fresh_ne hb5 k2
  have m5_2 := n2_5.symm
  have n4_5 := fresh_ne hb5 k4
  have m5_4 := n4_5.symm
  have s5 := hle.none hb5
  refine LOps.gen (fun S' => S.le S' ∧ S'.box b2 = some (mapW w) ∧ S'.box b4 = some ([.sl .nil []]) ∧ S'.box b5 = some ([.sl .nil []])) ⟨hle.newBox hb5 _, (box_new_ne _ _ n2_5).trans k2, (box_new_ne _ _ n4_5).trans k4, box_new _ _ _⟩ ?_
  clear hle hb5 k2 k4
  rintro S5 ⟨hle, k2, k4, k5⟩
  repeat (first | refine LOps.nil ?_ | refine andThen_normal ?_ | refine andThen_exit ?_ | refine andThen_ret ?_ | refine inBlock_normal ?_ | refine inBlock_ret ?_ | refine inBlock_here ?_ | refine inBlock_out rfl ?_ | refine LWp.seq ?_ | refine LWp.region ?_ | refine LWp.block ?_ | refine LWp.exit ?_ | refine LWp.ret ?_ | refine LWp.skip ?_ | refine LOps.valA ?_ | refine LOps.outA ?_ | refine LOps.whenA ?_ | refine LOps.pickA ?_ | refine LOps.storeA ?_)
  refine LWp.loop (fun m T S' => ∃ (T' : Nat → TV) (j : Nat) (o : Own), j ≤ w.length ∧ m = w.length - j ∧ S.le S' ∧ S'.box b2 = some (mapW w) ∧ S'.box b4 = some [.sl .nil []] ∧ S'.box b5 = some [.sl o ((withoutW (w.take j) k).map prL)] ∧ Owned S' 50 (withoutW (w.take j) k).length o ∧ Out S o ∧
    T = over T' [(1, .one (sv k)), (2, ptr b2), (4, ptr b4), (5, ptr b5), (6, .one (iv (j : Nat)))]) w.length ?_ ?_
  · exact ⟨_, 0, .nil, by omega, by omega, hle, k2, k4, k5, rfl, .nil _, holds.over ⟨rfl, rfl, rfl, rfl, rfl, trivial⟩⟩
  clear hle k2 k4 k5
  rintro m T S1 ⟨T', j, o, hj, rfl, hle, k2, k4, k5, hown, hout, rfl⟩
  repeat (first | refine LOps.nil ?_ | refine andThen_normal ?_ | refine andThen_exit ?_ | refine andThen_ret ?_ | refine inBlock_normal ?_ | refine inBlock_ret ?_ | refine inBlock_here ?_ | refine inBlock_out rfl ?_ | refine LWp.seq ?_ | refine LWp.region ?_ | refine LWp.block ?_ | refine LWp.exit ?_ | refine LWp.ret ?_ | refine LWp.skip ?_ | refine LOps.valA ?_ | refine LOps.outA ?_ | refine LOps.whenA ?_ | refine LOps.pickA ?_ | refine LOps.storeA ?_)
  refine LWp.cond rfl (fun h => ?_) (fun h => ?_)
  · have hlt : j < w.length := by simp at h; omega
    repeat (first | refine LOps.nil ?_ | refine andThen_normal ?_ | refine andThen_exit ?_ | refine andThen_ret ?_ | refine inBlock_normal ?_ | refine inBlock_ret ?_ | refine inBlock_here ?_ | refine inBlock_out rfl ?_ | refine LWp.seq ?_ | refine LWp.region ?_ | refine LWp.block ?_ | refine LWp.exit ?_ | refine LWp.ret ?_ | refine LWp.skip ?_ | refine LOps.valA ?_ | refine LOps.outA ?_ | refine LOps.whenA ?_ | refine LOps.pickA ?_ | refine LOps.storeA ?_)
    refine LWp.cond rfl (fun h => ?_) (fun h => ?_)
    · have h : (!decide (w[j].key = k)) = true := h
      have hk : w[j].key ≠ k := by simpa using h
      have hlen := withoutW_take_length w k j
      repeat (first | refine LOps.nil ?_ | refine andThen_normal ?_ | refine andThen_exit ?_ | refine andThen_ret ?_ | refine inBlock_normal ?_ | refine inBlock_ret ?_ | refine inBlock_here ?_ | refine inBlock_out rfl ?_ | refine LWp.seq ?_ | refine LWp.region ?_ | refine LWp.block ?_ | refine LWp.exit ?_ | refine LWp.ret ?_ | refine LWp.skip ?_ | refine LOps.valA ?_ | refine LOps.outA ?_ | refine LOps.whenA ?_ | refine LOps.pickA ?_ | refine LOps.storeA ?_)
      refine LWp.drawL [0, 1, 2, 3, 4, 5, 6, 7, 8, 9, 10] (by rw [hP]; rfl) rfl ?_
      repeat (first | refine LRl.nil ?_ | refine LRl.valA ?_ | refine LRl.outA ?_ | refine LRl.whenA ?_ | refine LRl.pickA ?_)
      refine LRl.act (LDo.push hD rfl rfl rfl rfl rfl rfl rfl rfl rfl rfl (show _ = (withoutW (w.take j) k).length by simp) hown (by omega)) rfl rfl rfl rfl (by rintro _ _ ⟨_, _, _, hup, _⟩; exact .inl (.upto hup)) ?_
      rintro _ S2 ⟨o', rfl, own2, hup, hno'⟩
      repeat (first | refine LRl.nil ?_ | refine LRl.valA ?_ | refine LRl.outA ?_ | refine LRl.whenA ?_ | refine LRl.pickA ?_)
      refine LRl.act0 (LDo.store hD rfl rfl (hup.box _ _ k5) rfl rfl rfl rfl) rfl rfl rfl (fun _ _ _ => .inr rfl) ?_
      rintro _ _ ⟨rfl, rfl⟩
      repeat (first | refine LRl.nil ?_ | refine LRl.valA ?_ | refine LRl.outA ?_ | refine LRl.whenA ?_ | refine LRl.pickA ?_)
      repeat (first | refine LOps.nil ?_ | refine andThen_normal ?_ | refine andThen_exit ?_ | refine andThen_ret ?_ | refine inBlock_normal ?_ | refine inBlock_ret ?_ | refine inBlock_here ?_ | refine inBlock_out rfl ?_ | refine LWp.seq ?_ | refine LWp.region ?_ | refine LWp.block ?_ | refine LWp.exit ?_ | refine LWp.ret ?_ | refine LWp.skip ?_ | refine LOps.valA ?_ | refine LOps.outA ?_ | refine LOps.whenA ?_ | refine LOps.pickA ?_ | refine LOps.storeA ?_)
      have e : (withoutW (w.take (j + 1)) k).map prL = (withoutW (w.take j) k).map prL ++ [prL w[j]] := by rw [withoutW_take hlt, if_neg hk, List.map_append]; rfl
      have e2 : (withoutW (w.take (j + 1)) k).length = (withoutW (w.take j) k).length + 1 := by rw [withoutW_take hlt, if_neg hk, List.length_append]; rfl
      refine ⟨w.length - (j + 1), by omega, _, j + 1, o', by omega, rfl, (hle.upto hup hout).setBox s5 _, (box_set_ne _ _ n2_5).trans (hup.box _ _ k2), (box_set_ne _ _ n4_5).trans (hup.box _ _ k4), ?_, ?_, hout.next hle hno', holds.over ⟨rfl, rfl, rfl, rfl, rfl, trivial⟩⟩
      · rw [box_set, e]; rfl
      · rw [e2]; exact own2.setBox
    · have h : (!decide (w[j].key = k)) = false := h
      have hk : w[j].key = k := by simpa using h
      repeat (first | refine LOps.nil ?_ | refine andThen_normal ?_ | refine andThen_exit ?_ | refine andThen_ret ?_ | refine inBlock_normal ?_ | refine inBlock_ret ?_ | refine inBlock_here ?_ | refine inBlock_out rfl ?_ | refine LWp.seq ?_ | refine LWp.region ?_ | refine LWp.block ?_ | refine LWp.exit ?_ | refine LWp.ret ?_ | refine LWp.skip ?_ | refine LOps.valA ?_ | refine LOps.outA ?_ | refine LOps.whenA ?_ | refine LOps.pickA ?_ | refine LOps.storeA ?_)
      have e : withoutW (w.take (j + 1)) k = withoutW (w.take j) k := by rw [withoutW_take hlt, if_pos hk, List.append_nil]
      exact ⟨w.length - (j + 1), by omega, _, j + 1, o, by omega, rfl, hle, k2, k4, by rw [e]; exact k5, by rw [e]; exact hown, hout, holds.over ⟨rfl, rfl, rfl, rfl, rfl, trivial⟩⟩
  · have hge : j = w.length := by simp at h; omega
    subst hge
    rw [List.take_length] at k5 hown
    repeat (first | refine LOps.nil ?_ | refine andThen_normal ?_ | refine andThen_exit ?_ | refine andThen_ret ?_ | refine inBlock_normal ?_ | refine inBlock_ret ?_ | refine inBlock_here ?_ | refine inBlock_out rfl ?_ | refine LWp.seq ?_ | refine LWp.region ?_ | refine LWp.block ?_ | refine LWp.exit ?_ | refine LWp.ret ?_ | refine LWp.skip ?_ | refine LOps.valA ?_ | refine LOps.outA ?_ | refine LOps.whenA ?_ | refine LOps.pickA ?_ | refine LOps.storeA ?_)
    exact ⟨_, mapOwn hP rfl rfl (box_set _ _ _), o, rfl, hle.setBox s4 _, hown.setBox, hout⟩
theorem withoutW_F {G : Ctx} (hP : G.P = Try.prog) (w : List Pr) (hl : w.length ≤ 1000000) (k : ByteArray) : LFun G 33 [.agg (mapW w), .one (sv k)] (.agg (mapW (withoutW w k))) := LFun.of fun S =>
  (withoutW_L hP w hl k S).shR fun r S' ⟨o, e, h, _⟩ => ⟨by rw [e]; rfl, h⟩

set_option maxHeartbeats 2000000 in
theorem withW_F {G : Ctx} (hP : G.P = Try.prog) (w : List Pr) (hl : w.length ≤ 1000000) (k v : ByteArray) : LFun G 26 [.agg (mapW w), .one (sv k), .one (sv v)] (.agg (mapW (withW w k v))) := LFun.of fun S => by
  have hD : TabOK G.P D := by rw [hP]; exact hD0
  refine LCalls.enter (fn := Try.f26) (by rw [hP]; exact Try.func26) rfl rfl ?_
  repeat (first | refine LOps.nil ?_ | refine andThen_normal ?_ | refine andThen_exit ?_ | refine andThen_ret ?_ | refine inBlock_normal ?_ | refine inBlock_ret ?_ | refine inBlock_here ?_ | refine inBlock_out rfl ?_ | refine LWp.seq ?_ | refine LWp.region ?_ | refine LWp.block ?_ | refine LWp.exit ?_ | refine LWp.ret ?_ | refine LWp.skip ?_ | refine LOps.valA ?_ | refine LOps.outA ?_ | refine LOps.whenA ?_ | refine LOps.pickA ?_ | refine LOps.storeA ?_)
  have hle := LS.le.refl S
  refine LOps.do (LDo.box rfl rfl) rfl rfl rfl ?_
  rintro _ _ ⟨b3, hb3, rfl, rfl⟩
  have s3 := hle.none hb3
  refine LOps.gen (fun S' => S.le S' ∧ S'.box b3 = some (mapW w)) ⟨hle.newBox hb3 _, box_new _ _ _⟩ ?_
  clear hle hb3 
  rintro S3 ⟨hle, k3⟩
  skip
  refine LOps.do (LDo.alloc hD rfl rfl rfl) rfl rfl rfl ?_
  rintro _ _ ⟨b6, hb6, rfl, rfl⟩
  have n3_6 := fresh_ne hb6 k3
  have m6_3 := n3_6.symm
  have s6 := hle.none hb6
  refine LOps.gen (fun S' => S.le S' ∧ S'.box b3 = some (mapW w) ∧ S'.box b6 = some ([.sl .nil []])) ⟨hle.newBox hb6 _, (box_new_ne _ _ n3_6).trans k3, box_new _ _ _⟩ ?_
  clear hle hb6 k3
  rintro S6 ⟨hle, k3, k6⟩
  repeat (first | refine LOps.valH (LVal.load hD rfl rfl k3 rfl rfl) ?_ | refine LOps.nil ?_ | refine andThen_normal ?_ | refine andThen_exit ?_ | refine andThen_ret ?_ | refine inBlock_normal ?_ | refine inBlock_ret ?_ | refine inBlock_here ?_ | refine inBlock_out rfl ?_ | refine LWp.seq ?_ | refine LWp.region ?_ | refine LWp.block ?_ | refine LWp.exit ?_ | refine LWp.ret ?_ | refine LWp.skip ?_ | refine LOps.valA ?_ | refine LOps.outA ?_ | refine LOps.whenA ?_ | refine LOps.pickA ?_ | refine LOps.storeA ?_)
  refine LOps.do (LDo.callF (withoutW_L hP w hl k _) (by rw [hP]; exact Try.func33)) rfl rfl rfl ?_
  rintro _ S1 ⟨o, rfl, hle1, hown, hout⟩
  refine LOps.do (LDo.alloc hD rfl rfl rfl) rfl rfl rfl ?_
  rintro _ _ ⟨b7, hb7, rfl, rfl⟩
  have n6 : b6 ≠ b7 := fun e => by have := hle1.box _ _ k6; rw [e, hb7.box] at this; cases this
  have s7 := (hle.trans hle1).none hb7
  repeat (first | refine LOps.nil ?_ | refine andThen_normal ?_ | refine andThen_exit ?_ | refine andThen_ret ?_ | refine inBlock_normal ?_ | refine inBlock_ret ?_ | refine inBlock_here ?_ | refine inBlock_out rfl ?_ | refine LWp.seq ?_ | refine LWp.region ?_ | refine LWp.block ?_ | refine LWp.exit ?_ | refine LWp.ret ?_ | refine LWp.skip ?_ | refine LOps.valA ?_ | refine LOps.outA ?_ | refine LOps.whenA ?_ | refine LOps.pickA ?_)
  refine LOps.storeA (b := b7) (off := 0) (cs := [.sl .nil []]) (l := [.sl o ((withoutW w k).map prL)]) ?_
  refine LOps.gen (fun S' => S.le S' ∧ S'.box b6 = some [.sl .nil []] ∧ S'.box b7 = some [.sl o ((withoutW w k).map prL)] ∧ Owned S' 50 (withoutW w k).length o) ⟨((hle.trans hle1).newBox hb7 _).setBox s7 _, (box_set_ne _ _ n6).trans ((box_new_ne _ _ n6).trans (hle1.box _ _ k6)), box_set _ _ _, hown.newBox.setBox⟩ ?_
  have hlen := withoutW_length w k
  have hout2 : Out S o := fun b hb => by
    have h2 := hout b hb
    cases hq : S.row b with
    | none => rfl
    | some x => rw [hle.row b x hq] at h2; cases h2
  clear hle hle1 k3 k6 hown hb7
  rintro S2 ⟨hle, k6, k7, hown⟩
  repeat (first | refine LOps.nil ?_ | refine andThen_normal ?_ | refine andThen_exit ?_ | refine andThen_ret ?_ | refine inBlock_normal ?_ | refine inBlock_ret ?_ | refine inBlock_here ?_ | refine inBlock_out rfl ?_ | refine LWp.seq ?_ | refine LWp.region ?_ | refine LWp.block ?_ | refine LWp.exit ?_ | refine LWp.ret ?_ | refine LWp.skip ?_ | refine LOps.valA ?_ | refine LOps.outA ?_ | refine LOps.whenA ?_ | refine LOps.pickA ?_ | refine LOps.storeA ?_)
  refine LOps.do (LDo.push hD rfl rfl rfl rfl rfl rfl rfl rfl rfl rfl (show _ = (withoutW w k).length by simp) hown (by omega)) rfl rfl rfl ?_
  rintro _ S3 ⟨o', rfl, own3, hup, hno'⟩
  have k73 := hup.box _ _ k7
  have k63 := hup.box _ _ k6
  repeat (first | refine LOps.nil ?_ | refine andThen_normal ?_ | refine andThen_exit ?_ | refine andThen_ret ?_ | refine inBlock_normal ?_ | refine inBlock_ret ?_ | refine inBlock_here ?_ | refine inBlock_out rfl ?_ | refine LWp.seq ?_ | refine LWp.region ?_ | refine LWp.block ?_ | refine LWp.exit ?_ | refine LWp.ret ?_ | refine LWp.skip ?_ | refine LOps.valA ?_ | refine LOps.outA ?_ | refine LOps.whenA ?_ | refine LOps.pickA ?_)
  refine LOps.storeA (b := b7) (off := 0) (cs := [.sl o ((withoutW w k).map prL)]) (l := [.sl o' ((withoutW w k).map prL ++ [[sv k, sv v]])]) ?_
  have k64 := (box_set_ne S3 (splice [.sl o ((withoutW w k).map prL)] 0 [.sl o' ((withoutW w k).map prL ++ [[sv k, sv v]])]) n6).trans k63
  have k74 := box_set S3 b7 (splice [.sl o ((withoutW w k).map prL)] 0 [.sl o' ((withoutW w k).map prL ++ [[sv k, sv v]])])
  repeat (first | refine LOps.valH (LVal.load hD rfl rfl k74 rfl rfl) ?_ | refine LOps.nil ?_ | refine andThen_normal ?_ | refine andThen_exit ?_ | refine andThen_ret ?_ | refine inBlock_normal ?_ | refine inBlock_ret ?_ | refine inBlock_here ?_ | refine inBlock_out rfl ?_ | refine LWp.seq ?_ | refine LWp.region ?_ | refine LWp.block ?_ | refine LWp.exit ?_ | refine LWp.ret ?_ | refine LWp.skip ?_ | refine LOps.valA ?_ | refine LOps.outA ?_ | refine LOps.whenA ?_ | refine LOps.pickA ?_ | refine LOps.storeA ?_)
  refine ⟨_, mapRes hP rfl rfl (box_set _ _ _), by rw [mapW, withW, List.map_append]; rfl, ?_⟩
  exact (((hle.upto hup hout2)).setBox s7 _).setBox s6 _

set_option maxHeartbeats 2000000 in
theorem newW_F {G : Ctx} (hP : G.P = Try.prog) (l : List Pr) (hl : l.length ≤ 1000000) : LFun G 12 [.one (.sl .sh (l.map prL))] (.agg (mapW (newW l))) := LFun.of fun S => by
  have hD : TabOK G.P D := by rw [hP]; exact hD0
  have hml : (l.map prL).length = l.length := List.length_map ..
  refine LCalls.enter (fn := Try.f12) (by rw [hP]; exact Try.func12) rfl rfl ?_
  repeat (first | refine LOps.nil ?_ | refine andThen_normal ?_ | refine andThen_exit ?_ | refine andThen_ret ?_ | refine inBlock_normal ?_ | refine inBlock_ret ?_ | refine inBlock_here ?_ | refine inBlock_out rfl ?_ | refine LWp.seq ?_ | refine LWp.region ?_ | refine LWp.block ?_ | refine LWp.exit ?_ | refine LWp.ret ?_ | refine LWp.skip ?_ | refine LOps.valA ?_ | refine LOps.outA ?_ | refine LOps.whenA ?_ | refine LOps.pickA ?_ | refine LOps.storeA ?_)
  have hle := LS.le.refl S
  refine LOps.do (LDo.alloc hD rfl rfl rfl) rfl rfl rfl ?_
  rintro _ _ ⟨b2, hb2, rfl, rfl⟩
  have s2 := hle.none hb2
  refine LOps.gen (fun S' => S.le S' ∧ S'.box b2 = some ([.sl .nil []])) ⟨hle.newBox hb2 _, box_new _ _ _⟩ ?_
  clear hle hb2 
  rintro S2 ⟨hle, k2⟩
  repeat (first | refine LOps.nil ?_ | refine andThen_normal ?_ | refine andThen_exit ?_ | refine andThen_ret ?_ | refine inBlock_normal ?_ | refine inBlock_ret ?_ | refine inBlock_here ?_ | refine inBlock_out rfl ?_ | refine LWp.seq ?_ | refine LWp.region ?_ | refine LWp.block ?_ | refine LWp.exit ?_ | refine LWp.ret ?_ | refine LWp.skip ?_ | refine LOps.valA ?_ | refine LOps.outA ?_ | refine LOps.whenA ?_ | refine LOps.pickA ?_ | refine LOps.storeA ?_)
  skip
  refine LOps.do (LDo.alloc hD rfl rfl rfl) rfl rfl rfl ?_
  rintro _ _ ⟨b3, hb3, rfl, rfl⟩
  have n2_3 := fresh_ne hb3 k2
  have m3_2 := n2_3.symm
  have s3 := hle.none hb3
  refine LOps.gen (fun S' => S.le S' ∧ S'.box b2 = some ([.sl .nil []]) ∧ S'.box b3 = some ([.sl .nil []])) ⟨hle.newBox hb3 _, (box_new_ne _ _ n2_3).trans k2, box_new _ _ _⟩ ?_
  clear hle hb3 k2
  rintro S3 ⟨hle, k2, k3⟩
  repeat (first | refine LOps.nil ?_ | refine andThen_normal ?_ | refine andThen_exit ?_ | refine andThen_ret ?_ | refine inBlock_normal ?_ | refine inBlock_ret ?_ | refine inBlock_here ?_ | refine inBlock_out rfl ?_ | refine LWp.seq ?_ | refine LWp.region ?_ | refine LWp.block ?_ | refine LWp.exit ?_ | refine LWp.ret ?_ | refine LWp.skip ?_ | refine LOps.valA ?_ | refine LOps.outA ?_ | refine LOps.whenA ?_ | refine LOps.pickA ?_ | refine LOps.storeA ?_)
  refine LWp.loop (fun m T S' => ∃ (T' : Nat → TV) (j : Nat) (o : Own), j ≤ l.length ∧ m = l.length - j ∧ S.le S' ∧ S'.box b2 = some [.sl .nil []] ∧ S'.box b3 = some [.sl o ((newW (l.take j)).map prL)] ∧ T = over T' [(0, .one (.sl .sh (l.map prL))), (2, ptr b2), (3, ptr b3), (4, .one (iv (j : Nat)))]) l.length ?_ ?_
  · exact ⟨_, 0, .nil, by omega, by omega, hle, k2, k3, holds.over ⟨rfl, rfl, rfl, rfl, trivial⟩⟩
  clear hle k2 k3
  rintro m T S1 ⟨T', j, o, hj, rfl, hle, k2, k3, rfl⟩
  have hlen := newW_length (l.take j)
  rw [List.length_take] at hlen
  repeat (first | refine LOps.nil ?_ | refine andThen_normal ?_ | refine andThen_exit ?_ | refine andThen_ret ?_ | refine inBlock_normal ?_ | refine inBlock_ret ?_ | refine inBlock_here ?_ | refine inBlock_out rfl ?_ | refine LWp.seq ?_ | refine LWp.region ?_ | refine LWp.block ?_ | refine LWp.exit ?_ | refine LWp.ret ?_ | refine LWp.skip ?_ | refine LOps.valA ?_ | refine LOps.outA ?_ | refine LOps.whenA ?_ | refine LOps.pickA ?_ | refine LOps.storeA ?_)
  refine LWp.cond rfl (fun h => ?_) (fun h => ?_)
  · have hlt : j < l.length := by simp at h; omega
    repeat (first | refine LOps.nil ?_ | refine andThen_normal ?_ | refine andThen_exit ?_ | refine andThen_ret ?_ | refine inBlock_normal ?_ | refine inBlock_ret ?_ | refine inBlock_here ?_ | refine inBlock_out rfl ?_ | refine LWp.seq ?_ | refine LWp.region ?_ | refine LWp.block ?_ | refine LWp.exit ?_ | refine LWp.ret ?_ | refine LWp.skip ?_ | refine LOps.valA ?_ | refine LOps.outA ?_ | refine LOps.whenA ?_ | refine LOps.pickA ?_ | refine LOps.storeA ?_)
    refine LWp.drawL [0, 1, 2, 3, 4, 5, 6, 7, 8, 9, 10, 11, 12] (by rw [hP]; rfl) rfl ?_
    have hcW := withW_F hP (newW (l.take j)) (by omega) l[j].key l[j].val
    repeat (first | refine LRl.valH (LVal.to (LVal.load hD rfl rfl k3 rfl rfl) (r' := .agg [.sl o ((newW (l.take j)).map prL)]) rfl) ?_ (fun _ hS => LVal.to (LVal.load hD rfl rfl (hS.box _ _ k3 (by first | exact id | (intro hx; rcases hx with hx | hx <;> omega) | (intro hx; have hx2 : _ = _ := hx; omega) | (intro hx; exact absurd hx.1 (by decide)))) rfl rfl) (r' := .agg [.sl o ((newW (l.take j)).map prL)]) rfl) | refine LRl.valC (fun _ => (LVal.call rfl rfl (by rw [hP]; exact Try.func26) rfl (by decide) (hcW))) ?_ | refine LRl.whenC (fun _ => (LVal.call rfl rfl (by rw [hP]; exact Try.func26) rfl (by decide) (hcW))) ?_ | refine LRl.nil ?_ | refine LRl.valA ?_ | refine LRl.outA ?_ | refine LRl.whenA ?_ | refine LRl.pickA ?_)
    refine LRl.act0 (LDo.store hD rfl rfl k3 rfl rfl rfl rfl) rfl rfl rfl (fun _ _ _ => .inr rfl) ?_
    rintro _ _ ⟨rfl, rfl⟩
    repeat (first | refine LRl.nil ?_ | refine LRl.valA ?_ | refine LRl.outA ?_ | refine LRl.whenA ?_ | refine LRl.pickA ?_)
    repeat (first | refine LOps.nil ?_ | refine andThen_normal ?_ | refine andThen_exit ?_ | refine andThen_ret ?_ | refine inBlock_normal ?_ | refine inBlock_ret ?_ | refine inBlock_here ?_ | refine inBlock_out rfl ?_ | refine LWp.seq ?_ | refine LWp.region ?_ | refine LWp.block ?_ | refine LWp.exit ?_ | refine LWp.ret ?_ | refine LWp.skip ?_ | refine LOps.valA ?_ | refine LOps.outA ?_ | refine LOps.whenA ?_ | refine LOps.pickA ?_ | refine LOps.storeA ?_)
    exact ⟨l.length - (j + 1), by omega, _, j + 1, .sh, by omega, rfl, hle.setBox s3 _, (box_set_ne _ _ n2_3).trans k2, by rw [box_set, newW_take hlt]; rfl, holds.over ⟨rfl, rfl, rfl, rfl, trivial⟩⟩
  · have hge : j = l.length := by simp at h; omega
    subst hge
    rw [List.take_length] at k3
    repeat (first | refine LOps.valH (LVal.load hD rfl rfl k3 rfl rfl) ?_ | refine LOps.nil ?_ | refine andThen_normal ?_ | refine andThen_exit ?_ | refine andThen_ret ?_ | refine inBlock_normal ?_ | refine inBlock_ret ?_ | refine inBlock_here ?_ | refine inBlock_out rfl ?_ | refine LWp.seq ?_ | refine LWp.region ?_ | refine LWp.block ?_ | refine LWp.exit ?_ | refine LWp.ret ?_ | refine LWp.skip ?_ | refine LOps.valA ?_ | refine LOps.outA ?_ | refine LOps.whenA ?_ | refine LOps.pickA ?_ | refine LOps.storeA ?_)
    exact ⟨_, mapRes hP rfl rfl (box_set _ _ _), rfl, hle.setBox s2 _⟩
end Go.Proofs.Ytndcdmmmfplbbaa.LF
