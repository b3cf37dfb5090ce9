/- The document's map: the walks of next, All, Same, Refused. -/
import Derived.Test.YtndcdmmmfplbbaaLOh
set_option linter.unusedVariables false
set_option linter.unusedSimpArgs false
namespace Go.Proofs.Ytndcdmmmfplbbaa.LF
open Go.RowKit
set_option linter.unusedVariables false

def SmallW (w : List Pr) : Prop := ∀ p ∈ w, p.key.size ≤ 1000000 ∧ p.val.size ≤ 1000000
theorem ans_pairA (a : Option Pr) : pairA a = match a with
  | some p => ⟨0, true, p.key, p.val⟩
  | none => noAns := by cases a <;> rfl
theorem nextW_take {w : List Pr} {k : ByteArray} {after : Bool} {j : Nat} (h : j < w.length) : nextW (w.take (j + 1)) k after = nextStep k after (nextW (w.take j) k after) w[j] := by
  unfold nextW
  rw [List.take_succ_eq_append_getElem h, List.foldl_append]; rfl
theorem nextStep_skip {k : ByteArray} {after : Bool} {a : Option Pr} {p : Pr} (h : skipW k after p = true) : nextStep k after a p = a := by unfold nextStep; rw [if_pos h]
theorem nextStep_none {k : ByteArray} {after : Bool} {p : Pr} (h : skipW k after p = false) : nextStep k after none p = some p := by unfold nextStep; rw [if_neg (by rw [h]; decide)]
theorem nextStep_lt {k : ByteArray} {after : Bool} {p q : Pr} (h : skipW k after p = false) (hl : ltS p.key q.key = true) : nextStep k after (some q) p = some p := by unfold nextStep; rw [if_neg (by rw [h]; decide)]; simp only [hl, if_true]
theorem nextStep_ge {k : ByteArray} {after : Bool} {p q : Pr} (h : skipW k after p = false) (hl : ltS p.key q.key = false) : nextStep k after (some q) p = some q := by unfold nextStep; rw [if_neg (by rw [h]; decide)]; simp only [hl, Bool.false_eq_true, if_false]
theorem nextW_mem {w : List Pr} {k : ByteArray} {after : Bool} {p : Pr} (h : nextW w k after = some p) : p ∈ w := by
  rcases nextW_spec k after w with ⟨e, _⟩ | ⟨q, h1, h2, _⟩
  · rw [e] at h; cases h
  · rw [h2] at h; cases h; exact h1
theorem ansRes2 {G : Ctx} (hP : G.P = Try.prog) {n : Nat} {fn : Func} {T : Nat → TV} {S : LS} {a : Tmp} {b : Nat} {x : Ans} (hf : fn.results = #[.cell a 35]) (ha : T a = ptr b) (hb : S.box b = some (ansL x)) : LRes G n fn T S (.agg (ansL x)) :=
  LRes.cell hf (.cell ha hb (hP ▸ tok35) rfl)

set_option maxHeartbeats 4000000 in
theorem nextW_F {G : Ctx} (hP : G.P = Try.prog) (w : List Pr) (hl : w.length ≤ 1000000) (hw : SmallW w) (k : ByteArray) (hk : k.size ≤ 1000000) (after : Bool) : LFun G 28 [.agg (mapW w), .one (sv k), .one (bv after)] (.agg (ansL (pairA (nextW w k after)))) := LFun.of fun S => by
  have hD : TabOK G.P D := by rw [hP]; exact hD0
  have hml : (w.map prL).length = w.length := List.length_map ..
  refine LCalls.enter (fn := Try.f28) (by rw [hP]; exact Try.func28) rfl rfl ?_
  repeat (first | refine LOps.nil ?_ | refine andThen_normal ?_ | refine andThen_exit ?_ | refine andThen_ret ?_ | refine inBlock_normal ?_ | refine inBlock_ret ?_ | refine inBlock_here ?_ | refine inBlock_out rfl ?_ | refine LWp.seq ?_ | refine LWp.region ?_ | refine LWp.block ?_ | refine LWp.exit ?_ | refine LWp.ret ?_ | refine LWp.skip ?_ | refine LOps.valA ?_ | refine LOps.outA ?_ | refine LOps.whenA ?_ | refine LOps.pickA ?_ | refine LOps.storeA ?_)
  have hle := LS.le.refl S
  refine LOps.do (LDo.box rfl rfl) rfl rfl rfl ?_
  rintro _ _ ⟨b3, hb3, rfl, rfl⟩
  have s3 := hle.none hb3
  refine LOps.gen (fun S' => S.le S' ∧ S'.box b3 = some (mapW w)) ⟨hle.newBox hb3 _, box_new _ _ _⟩ ?_
  clear hle hb3 
  rintro S3 ⟨hle, k3⟩
  skip
  refine LOps.do (LDo.alloc hD rfl rfl rfl) rfl rfl rfl ?_
  rintro _ _ ⟨b6, hb6, rfl, rfl⟩
  have n3_6 := fresh_ne hb6 k3
  have m6_3 := n3_6.symm
  have s6 := hle.none hb6
  refine LOps.gen (fun S' => S.le S' ∧ S'.box b3 = some (mapW w) ∧ S'.box b6 = some (ansL noAns)) ⟨hle.newBox hb6 _, (box_new_ne _ _ n3_6).trans k3, box_new _ _ _⟩ ?_
  clear hle hb6 k3
  rintro S6 ⟨hle, k3, k6⟩
  repeat (first | refine LOps.nil ?_ | refine andThen_normal ?_ | refine andThen_exit ?_ | refine andThen_ret ?_ | refine inBlock_normal ?_ | refine inBlock_ret ?_ | refine inBlock_here ?_ | refine inBlock_out rfl ?_ | refine LWp.seq ?_ | refine LWp.region ?_ | refine LWp.block ?_ | refine LWp.exit ?_ | refine LWp.ret ?_ | refine LWp.skip ?_ | refine LOps.valA ?_ | refine LOps.outA ?_ | refine LOps.whenA ?_ | refine LOps.pickA ?_ | refine LOps.storeA ?_)
  skip
  refine LOps.do (LDo.alloc hD rfl rfl rfl) rfl rfl rfl ?_
  rintro _ _ ⟨b7, hb7, rfl, rfl⟩
  have n3_7 := fresh_ne hb7 k3
  have m7_3 := n3_7.symm
  have n6_7 := fresh_ne hb7 k6
  have m7_6 := n6_7.symm
  have s7 := hle.none hb7
  refine LOps.gen (fun S' => S.le S' ∧ S'.box b3 = some (mapW w) ∧ S'.box b6 = some (ansL noAns) ∧ S'.box b7 = some (ansL noAns)) ⟨hle.newBox hb7 _, (box_new_ne _ _ n3_7).trans k3, (box_new_ne _ _ n6_7).trans k6, box_new _ _ _⟩ ?_
  clear hle hb7 k3 k6
  rintro S7 ⟨hle, k3, k6, k7⟩
  repeat (first | refine LOps.nil ?_ | refine andThen_normal ?_ | refine andThen_exit ?_ | refine andThen_ret ?_ | refine inBlock_normal ?_ | refine inBlock_ret ?_ | refine inBlock_here ?_ | refine inBlock_out rfl ?_ | refine LWp.seq ?_ | refine LWp.region ?_ | refine LWp.block ?_ | refine LWp.exit ?_ | refine LWp.ret ?_ | refine LWp.skip ?_ | refine LOps.valA ?_ | refine LOps.outA ?_ | refine LOps.whenA ?_ | refine LOps.pickA ?_ | refine LOps.storeA ?_)
  refine LWp.loop (fun m T S' => ∃ (T' : Nat → TV) (j : Nat), j ≤ w.length ∧ m = w.length - j ∧ S.le S' ∧ S'.box b3 = some (mapW w) ∧ S'.box b6 = some (ansL noAns) ∧ S'.box b7 = some (ansL (pairA (nextW (w.take j) k after))) ∧
    T = over T' [(1, .one (sv k)), (2, .one (bv after)), (3, ptr b3), (6, ptr b6), (7, ptr b7), (8, .one (iv (j : Nat)))]) w.length ?_ ?_
  · exact ⟨_, 0, by omega, by omega, hle, k3, k6, k7, holds.over ⟨rfl, rfl, rfl, rfl, rfl, rfl, trivial⟩⟩
  clear hle k3 k6 k7
  rintro m T S1 ⟨T', j, hj, rfl, hle, k3, k6, k7, rfl⟩
  repeat (first | refine LOps.nil ?_ | refine andThen_normal ?_ | refine andThen_exit ?_ | refine andThen_ret ?_ | refine inBlock_normal ?_ | refine inBlock_ret ?_ | refine inBlock_here ?_ | refine inBlock_out rfl ?_ | refine LWp.seq ?_ | refine LWp.region ?_ | refine LWp.block ?_ | refine LWp.exit ?_ | refine LWp.ret ?_ | refine LWp.skip ?_ | refine LOps.valA ?_ | refine LOps.outA ?_ | refine LOps.whenA ?_ | refine LOps.pickA ?_ | refine LOps.storeA ?_)
  refine LWp.cond rfl (fun h => ?_) (fun h => ?_)
  · have hlt : j < w.length := by simp at h; omega
    have hwj := hw w[j] (List.getElem_mem hlt)
    repeat (first | refine LOps.nil ?_ | refine andThen_normal ?_ | refine andThen_exit ?_ | refine andThen_ret ?_ | refine inBlock_normal ?_ | refine inBlock_ret ?_ | refine inBlock_here ?_ | refine inBlock_out rfl ?_ | refine LWp.seq ?_ | refine LWp.region ?_ | refine LWp.block ?_ | refine LWp.exit ?_ | refine LWp.ret ?_ | refine LWp.skip ?_ | refine LOps.valA ?_ | refine LOps.outA ?_ | refine LOps.whenA ?_ | refine LOps.pickA ?_)
    skip
    refine LOps.do (LDo.alloc hD rfl rfl rfl) rfl rfl rfl ?_
    rintro _ _ ⟨b9, hb9, rfl, rfl⟩
    have n3_9 := fresh_ne hb9 k3
    have m9_3 := n3_9.symm
    have n6_9 := fresh_ne hb9 k6
    have m9_6 := n6_9.symm
    have n7_9 := fresh_ne hb9 k7
    have m9_7 := n7_9.symm
    have s9 := hle.none hb9
    refine LOps.gen (fun S' => S.le S' ∧ S'.box b3 = some (mapW w) ∧ S'.box b6 = some (ansL noAns) ∧ S'.box b7 = some (ansL (pairA (nextW (w.take j) k after))) ∧ S'.box b9 = some ([sv noBytes, sv noBytes])) ⟨hle.newBox hb9 _, (box_new_ne _ _ n3_9).trans k3, (box_new_ne _ _ n6_9).trans k6, (box_new_ne _ _ n7_9).trans k7, box_new _ _ _⟩ ?_
    clear hle hb9 k3 k6 k7
    rintro S9 ⟨hle, k3, k6, k7, k9⟩
    repeat (first | refine LOps.nil ?_ | refine andThen_normal ?_ | refine andThen_exit ?_ | refine andThen_ret ?_ | refine inBlock_normal ?_ | refine inBlock_ret ?_ | refine inBlock_here ?_ | refine inBlock_out rfl ?_ | refine LWp.seq ?_ | refine LWp.region ?_ | refine LWp.block ?_ | refine LWp.exit ?_ | refine LWp.ret ?_ | refine LWp.skip ?_ | refine LOps.valA ?_ | refine LOps.outA ?_ | refine LOps.whenA ?_ | refine LOps.pickA ?_)
    refine LOps.storeA (b := b9) (off := 0) (cs := [sv noBytes, sv noBytes]) (l := prL w[j]) ?_
    refine LOps.gen (fun S' => S.le S' ∧ S'.box b3 = some (mapW w) ∧ S'.box b6 = some (ansL noAns) ∧ S'.box b7 = some (ansL (pairA (nextW (w.take j) k after))) ∧ S'.box b9 = some (prL w[j])) ⟨hle.setBox s9 _, (box_set_ne _ _ n3_9).trans k3, (box_set_ne _ _ n6_9).trans k6, (box_set_ne _ _ n7_9).trans k7, (box_set _ _ _).trans (congrArg some (rfl))⟩ ?_
    clear hle k3 k6 k7 k9
    rintro Ss ⟨hle, k3, k6, k7, k9⟩
    have c1 := less_F hP w[j].key k (by omega) (by omega)
    repeat (first | refine LOps.nil ?_ | refine andThen_normal ?_ | refine andThen_exit ?_ | refine andThen_ret ?_ | refine inBlock_normal ?_ | refine inBlock_ret ?_ | refine inBlock_here ?_ | refine inBlock_out rfl ?_ | refine LWp.seq ?_ | refine LWp.region ?_ | refine LWp.block ?_ | refine LWp.exit ?_ | refine LWp.ret ?_ | refine LWp.skip ?_ | refine LOps.val (LVal.call rfl rfl (by rw [hP]; exact Try.func38) rfl (by decide) (c1)) rfl rfl rfl ?_ | refine LOps.whenC (LVal.call rfl rfl (by rw [hP]; exact Try.func38) rfl (by decide) (c1)) ?_ | refine LOps.valA ?_ | refine LOps.outA ?_ | refine LOps.whenA ?_ | refine LOps.pickA ?_ | refine LOps.storeA ?_)
    refine LWp.cond rfl (fun h => ?_) (fun h => ?_)
    · have h : skipW k after w[j] = true := h
      repeat (first | refine LOps.nil ?_ | refine andThen_normal ?_ | refine andThen_exit ?_ | refine andThen_ret ?_ | refine inBlock_normal ?_ | refine inBlock_ret ?_ | refine inBlock_here ?_ | refine inBlock_out rfl ?_ | refine LWp.seq ?_ | refine LWp.region ?_ | refine LWp.block ?_ | refine LWp.exit ?_ | refine LWp.ret ?_ | refine LWp.skip ?_ | refine LOps.valA ?_ | refine LOps.outA ?_ | refine LOps.whenA ?_ | refine LOps.pickA ?_ | refine LOps.storeA ?_)
      exact ⟨w.length - (j + 1), by omega, _, j + 1, by omega, rfl, hle, k3, k6, by rw [nextW_take hlt, nextStep_skip h]; exact k7, holds.over ⟨rfl, rfl, rfl, rfl, rfl, rfl, trivial⟩⟩
    have h : skipW k after w[j] = false := h
    obtain ⟨a, ha⟩ : ∃ a, a = nextW (w.take j) k after := ⟨_, rfl⟩
    rw [← ha] at k7
    cases a with
    | none =>
      repeat (first | refine LWp.condT rfl ?_ | refine LOps.outA ?_ | refine LOps.nil ?_ | refine andThen_normal ?_ | refine andThen_exit ?_ | refine andThen_ret ?_ | refine inBlock_normal ?_ | refine inBlock_ret ?_ | refine inBlock_here ?_ | refine inBlock_out rfl ?_ | refine LWp.seq ?_ | refine LWp.region ?_ | refine LWp.block ?_ | refine LWp.exit ?_ | refine LWp.ret ?_ | refine LWp.skip ?_ | refine LOps.valA ?_ | refine LOps.outA ?_ | refine LOps.whenA ?_ | refine LOps.pickA ?_)
      refine LOps.storeA (b := b7) (off := 0) (cs := ansL (pairA none)) (l := ansL (pairA (some w[j]))) ?_
      refine LOps.gen (fun S' => S.le S' ∧ S'.box b3 = some (mapW w) ∧ S'.box b6 = some (ansL noAns) ∧ S'.box b7 = some (ansL (pairA (some w[j]))) ∧ S'.box b9 = some (prL w[j])) ⟨hle.setBox s7 _, (box_set_ne _ _ n3_7).trans k3, (box_set_ne _ _ n6_7).trans k6, (box_set _ _ _).trans (congrArg some (rfl)), (box_set_ne _ _ m9_7).trans k9⟩ ?_
      clear hle k3 k6 k7 k9
      rintro Ss ⟨hle, k3, k6, k7, k9⟩
      repeat (first | refine LOps.nil ?_ | refine andThen_normal ?_ | refine andThen_exit ?_ | refine andThen_ret ?_ | refine inBlock_normal ?_ | refine inBlock_ret ?_ | refine inBlock_here ?_ | refine inBlock_out rfl ?_ | refine LWp.seq ?_ | refine LWp.region ?_ | refine LWp.block ?_ | refine LWp.exit ?_ | refine LWp.ret ?_ | refine LWp.skip ?_ | refine LOps.valA ?_ | refine LOps.outA ?_ | refine LOps.whenA ?_ | refine LOps.pickA ?_ | refine LOps.storeA ?_)
      exact ⟨w.length - (j + 1), by omega, _, j + 1, by omega, rfl, hle, k3, k6, by rw [nextW_take hlt, ← ha, nextStep_none h]; exact k7, holds.over ⟨rfl, rfl, rfl, rfl, rfl, rfl, trivial⟩⟩
    | some q =>
      have hq : q ∈ w := List.mem_of_mem_take (nextW_mem ha.symm)
      have c2 := less_F hP w[j].key q.key (by omega) (by have := hw q hq; omega)
      repeat (first | refine LOps.whenC (LVal.call rfl rfl (by rw [hP]; exact Try.func38) rfl (by decide) c2) ?_ | refine LOps.nil ?_ | refine andThen_normal ?_ | refine andThen_exit ?_ | refine andThen_ret ?_ | refine inBlock_normal ?_ | refine inBlock_ret ?_ | refine inBlock_here ?_ | refine inBlock_out rfl ?_ | refine LWp.seq ?_ | refine LWp.region ?_ | refine LWp.block ?_ | refine LWp.exit ?_ | refine LWp.ret ?_ | refine LWp.skip ?_ | refine LOps.valA ?_ | refine LOps.outA ?_ | refine LOps.whenA ?_ | refine LOps.pickA ?_)
      refine LWp.cond rfl (fun h2 => ?_) (fun h2 => ?_)
      · have h2 : ltS w[j].key q.key = true := h2
        repeat (first | refine LOps.nil ?_ | refine andThen_normal ?_ | refine andThen_exit ?_ | refine andThen_ret ?_ | refine inBlock_normal ?_ | refine inBlock_ret ?_ | refine inBlock_here ?_ | refine inBlock_out rfl ?_ | refine LWp.seq ?_ | refine LWp.region ?_ | refine LWp.block ?_ | refine LWp.exit ?_ | refine LWp.ret ?_ | refine LWp.skip ?_ | refine LOps.valA ?_ | refine LOps.outA ?_ | refine LOps.whenA ?_ | refine LOps.pickA ?_)
        refine LOps.storeA (b := b7) (off := 0) (cs := ansL (pairA (some q))) (l := ansL (pairA (some w[j]))) ?_
        refine LOps.gen (fun S' => S.le S' ∧ S'.box b3 = some (mapW w) ∧ S'.box b6 = some (ansL noAns) ∧ S'.box b7 = some (ansL (pairA (some w[j]))) ∧ S'.box b9 = some (prL w[j])) ⟨hle.setBox s7 _, (box_set_ne _ _ n3_7).trans k3, (box_set_ne _ _ n6_7).trans k6, (box_set _ _ _).trans (congrArg some (rfl)), (box_set_ne _ _ m9_7).trans k9⟩ ?_
        clear hle k3 k6 k7 k9
        rintro Ss ⟨hle, k3, k6, k7, k9⟩
        repeat (first | refine LOps.nil ?_ | refine andThen_normal ?_ | refine andThen_exit ?_ | refine andThen_ret ?_ | refine inBlock_normal ?_ | refine inBlock_ret ?_ | refine inBlock_here ?_ | refine inBlock_out rfl ?_ | refine LWp.seq ?_ | refine LWp.region ?_ | refine LWp.block ?_ | refine LWp.exit ?_ | refine LWp.ret ?_ | refine LWp.skip ?_ | refine LOps.valA ?_ | refine LOps.outA ?_ | refine LOps.whenA ?_ | refine LOps.pickA ?_ | refine LOps.storeA ?_)
        exact ⟨w.length - (j + 1), by omega, _, j + 1, by omega, rfl, hle, k3, k6, by rw [nextW_take hlt, ← ha, nextStep_lt h h2]; exact k7, holds.over ⟨rfl, rfl, rfl, rfl, rfl, rfl, trivial⟩⟩
      · have h2 : ltS w[j].key q.key = false := h2
        repeat (first | refine LOps.nil ?_ | refine andThen_normal ?_ | refine andThen_exit ?_ | refine andThen_ret ?_ | refine inBlock_normal ?_ | refine inBlock_ret ?_ | refine inBlock_here ?_ | refine inBlock_out rfl ?_ | refine LWp.seq ?_ | refine LWp.region ?_ | refine LWp.block ?_ | refine LWp.exit ?_ | refine LWp.ret ?_ | refine LWp.skip ?_ | refine LOps.valA ?_ | refine LOps.outA ?_ | refine LOps.whenA ?_ | refine LOps.pickA ?_)
        exact ⟨w.length - (j + 1), by omega, _, j + 1, by omega, rfl, hle, k3, k6, by rw [nextW_take hlt, ← ha, nextStep_ge h h2]; exact k7, holds.over ⟨rfl, rfl, rfl, rfl, rfl, rfl, trivial⟩⟩
  · have hge : j = w.length := by simp at h; omega
    subst hge
    rw [List.take_length] at k7
    repeat (first | refine LOps.valH (LVal.load hD rfl rfl k7 rfl rfl) ?_ | refine LOps.nil ?_ | refine andThen_normal ?_ | refine andThen_exit ?_ | refine andThen_ret ?_ | refine inBlock_normal ?_ | refine inBlock_ret ?_ | refine inBlock_here ?_ | refine inBlock_out rfl ?_ | refine LWp.seq ?_ | refine LWp.region ?_ | refine LWp.block ?_ | refine LWp.exit ?_ | refine LWp.ret ?_ | refine LWp.skip ?_ | refine LOps.valA ?_ | refine LOps.outA ?_ | refine LOps.whenA ?_ | refine LOps.pickA ?_)
    refine LOps.storeA (b := b6) (off := 0) (cs := ansL noAns) (l := ansL (pairA (nextW w k after))) ?_
    refine LOps.gen (fun S' => S.le S' ∧ S'.box b3 = some (mapW w) ∧ S'.box b6 = some (ansL (pairA (nextW w k after))) ∧ S'.box b7 = some (ansL (pairA (nextW w k after)))) ⟨hle.setBox s6 _, (box_set_ne _ _ n3_6).trans k3, (box_set _ _ _).trans (congrArg some (rfl)), (box_set_ne _ _ m7_6).trans k7⟩ ?_
    clear hle k3 k6 k7
    rintro Ss ⟨hle, k3, k6, k7⟩
    repeat (first | refine LOps.nil ?_ | refine andThen_normal ?_ | refine andThen_exit ?_ | refine andThen_ret ?_ | refine inBlock_normal ?_ | refine inBlock_ret ?_ | refine inBlock_here ?_ | refine inBlock_out rfl ?_ | refine LWp.seq ?_ | refine LWp.region ?_ | refine LWp.block ?_ | refine LWp.exit ?_ | refine LWp.ret ?_ | refine LWp.skip ?_ | refine LOps.valA ?_ | refine LOps.outA ?_ | refine LOps.whenA ?_ | refine LOps.pickA ?_ | refine LOps.storeA ?_)
    exact ⟨_, ansRes2 hP rfl rfl k6, rfl, hle⟩


set_option maxHeartbeats 4000000 in
theorem allW_F {G : Ctx} (hP : G.P = Try.prog) (w l : List Pr) (ha : Alike w l) (hl : w.length ≤ 1000000) (hw : SmallW w) : LFun G 15 [.agg (mapW w)] (.one (.sl .sh (l.map prL))) := LFun.of fun S => by
  have hD : TabOK G.P D := by rw [hP]; exact hD0
  have hll := ha.len
  refine LCalls.enter (fn := Try.f15) (by rw [hP]; exact Try.func15) rfl rfl ?_
  repeat (first | refine LOps.nil ?_ | refine andThen_normal ?_ | refine andThen_exit ?_ | refine andThen_ret ?_ | refine inBlock_normal ?_ | refine inBlock_ret ?_ | refine inBlock_here ?_ | refine inBlock_out rfl ?_ | refine LWp.seq ?_ | refine LWp.region ?_ | refine LWp.block ?_ | refine LWp.exit ?_ | refine LWp.ret ?_ | refine LWp.skip ?_ | refine LOps.valA ?_ | refine LOps.outA ?_ | refine LOps.whenA ?_ | refine LOps.pickA ?_ | refine LOps.storeA ?_)
  have hle := LS.le.refl S
  refine LOps.do (LDo.box rfl rfl) rfl rfl rfl ?_
  rintro _ _ ⟨b1, hb1, rfl, rfl⟩
  have s1 := hle.none hb1
  refine LOps.gen (fun S' => S.le S' ∧ S'.box b1 = some (mapW w)) ⟨hle.newBox hb1 _, box_new _ _ _⟩ ?_
  clear hle hb1 
  rintro S1 ⟨hle, k1⟩
  have c1 := nextW_F hP w hl hw noBytes (by decide) false
  rw [ha.next, next_first ha.srt] at c1
  repeat (first | refine LOps.valH (LVal.load hD rfl rfl k1 rfl rfl) ?_ | refine LOps.nil ?_ | refine andThen_normal ?_ | refine andThen_exit ?_ | refine andThen_ret ?_ | refine inBlock_normal ?_ | refine inBlock_ret ?_ | refine inBlock_here ?_ | refine inBlock_out rfl ?_ | refine LWp.seq ?_ | refine LWp.region ?_ | refine LWp.block ?_ | refine LWp.exit ?_ | refine LWp.ret ?_ | refine LWp.skip ?_ | refine LOps.val (LVal.call rfl rfl (by rw [hP]; exact Try.func28) rfl (by decide) (c1)) rfl rfl rfl ?_ | refine LOps.whenC (LVal.call rfl rfl (by rw [hP]; exact Try.func28) rfl (by decide) (c1)) ?_ | refine LOps.valA ?_ | refine LOps.outA ?_ | refine LOps.whenA ?_ | refine LOps.pickA ?_ | refine LOps.storeA ?_)
  skip
  refine LOps.do (LDo.alloc hD rfl rfl rfl) rfl rfl rfl ?_
  rintro _ _ ⟨b4, hb4, rfl, rfl⟩
  have n1_4 := fresh_ne hb4 k1
  have m4_1 := n1_4.symm
  have s4 := hle.none hb4
  refine LOps.gen (fun S' => S.le S' ∧ S'.box b1 = some (mapW w) ∧ S'.box b4 = some (ansL noAns)) ⟨hle.newBox hb4 _, (box_new_ne _ _ n1_4).trans k1, box_new _ _ _⟩ ?_
  clear hle hb4 k1
  rintro S4 ⟨hle, k1, k4⟩
  repeat (first | refine LOps.nil ?_ | refine andThen_normal ?_ | refine andThen_exit ?_ | refine andThen_ret ?_ | refine inBlock_normal ?_ | refine inBlock_ret ?_ | refine inBlock_here ?_ | refine inBlock_out rfl ?_ | refine LWp.seq ?_ | refine LWp.region ?_ | refine LWp.block ?_ | refine LWp.exit ?_ | refine LWp.ret ?_ | refine LWp.skip ?_ | refine LOps.valA ?_ | refine LOps.outA ?_ | refine LOps.whenA ?_ | refine LOps.pickA ?_)
  refine LOps.storeA (b := b4) (off := 0) (cs := ansL noAns) (l := ansL (pairA l[0]?)) ?_
  refine LOps.gen (fun S' => S.le S' ∧ S'.box b1 = some (mapW w) ∧ S'.box b4 = some (ansL (pairA l[0]?))) ⟨hle.setBox s4 _, (box_set_ne _ _ n1_4).trans k1, (box_set _ _ _).trans (congrArg some (rfl))⟩ ?_
  clear hle k1 k4
  rintro Ss ⟨hle, k1, k4⟩
  repeat (first | refine LOps.nil ?_ | refine andThen_normal ?_ | refine andThen_exit ?_ | refine andThen_ret ?_ | refine inBlock_normal ?_ | refine inBlock_ret ?_ | refine inBlock_here ?_ | refine inBlock_out rfl ?_ | refine LWp.seq ?_ | refine LWp.region ?_ | refine LWp.block ?_ | refine LWp.exit ?_ | refine LWp.ret ?_ | refine LWp.skip ?_ | refine LOps.valA ?_ | refine LOps.outA ?_ | refine LOps.whenA ?_ | refine LOps.pickA ?_ | refine LOps.storeA ?_)
  refine LWp.loop (fun m T S' => ∃ (T' : Nat → TV) (j : Nat) (o : Own), j ≤ l.length ∧ m = l.length - j ∧ S.le S' ∧ S'.box b1 = some (mapW w) ∧ S'.box b4 = some (ansL (pairA l[j]?)) ∧ Owned S' 50 j o ∧ Out S o ∧
    T = over T' [(1, ptr b1), (3, .one (.sl o ((l.take j).map prL))), (4, ptr b4)]) l.length ?_ ?_
  · exact ⟨_, 0, .nil, by omega, by omega, hle, k1, k4, rfl, .nil _, holds.over ⟨rfl, rfl, rfl, trivial⟩⟩
  clear hle k1 k4 c1
  rintro m T S1 ⟨T', j, o, hj, rfl, hle, k1, k4, hown, hout, rfl⟩
  by_cases hlt : j < l.length
  · rw [List.getElem?_eq_getElem hlt] at k4
    have c2 := nextW_F hP w hl hw l[j].key (hw _ ((ha.mem _).2 (List.getElem_mem hlt))).1 true
    rw [ha.next, next_at ha.srt hlt] at c2
    repeat (first | refine LWp.condT rfl ?_ | refine LOps.nil ?_ | refine andThen_normal ?_ | refine andThen_exit ?_ | refine andThen_ret ?_ | refine inBlock_normal ?_ | refine inBlock_ret ?_ | refine inBlock_here ?_ | refine inBlock_out rfl ?_ | refine LWp.seq ?_ | refine LWp.region ?_ | refine LWp.block ?_ | refine LWp.exit ?_ | refine LWp.ret ?_ | refine LWp.skip ?_ | refine LOps.valA ?_ | refine LOps.outA ?_ | refine LOps.whenA ?_ | refine LOps.pickA ?_ | refine LOps.storeA ?_)
    refine LOps.do (LDo.push hD rfl rfl rfl rfl rfl rfl rfl rfl rfl rfl (show _ = j by rw [List.length_map, List.length_take]; omega) hown (by omega)) rfl rfl rfl ?_
    rintro _ S2 ⟨o', rfl, own2, hup, hno'⟩
    have k12 := hup.box _ _ k1
    have k42 := hup.box _ _ k4
    repeat (first | refine LOps.valH (LVal.load hD rfl rfl k12 rfl rfl) ?_ | refine LOps.nil ?_ | refine andThen_normal ?_ | refine andThen_exit ?_ | refine andThen_ret ?_ | refine inBlock_normal ?_ | refine inBlock_ret ?_ | refine inBlock_here ?_ | refine inBlock_out rfl ?_ | refine LWp.seq ?_ | refine LWp.region ?_ | refine LWp.block ?_ | refine LWp.exit ?_ | refine LWp.ret ?_ | refine LWp.skip ?_ | refine LOps.val (LVal.call rfl rfl (by rw [hP]; exact Try.func28) rfl (by decide) (c2)) rfl rfl rfl ?_ | refine LOps.whenC (LVal.call rfl rfl (by rw [hP]; exact Try.func28) rfl (by decide) (c2)) ?_ | refine LOps.valA ?_ | refine LOps.outA ?_ | refine LOps.whenA ?_ | refine LOps.pickA ?_)
    refine LOps.storeA (b := b4) (off := 0) (cs := ansL (pairA (some l[j]))) (l := ansL (pairA l[j + 1]?)) ?_
    repeat (first | refine LOps.nil ?_ | refine andThen_normal ?_ | refine andThen_exit ?_ | refine andThen_ret ?_ | refine inBlock_normal ?_ | refine inBlock_ret ?_ | refine inBlock_here ?_ | refine inBlock_out rfl ?_ | refine LWp.seq ?_ | refine LWp.region ?_ | refine LWp.block ?_ | refine LWp.exit ?_ | refine LWp.ret ?_ | refine LWp.skip ?_ | refine LOps.valA ?_ | refine LOps.outA ?_ | refine LOps.whenA ?_ | refine LOps.pickA ?_ | refine LOps.storeA ?_)
    exact ⟨l.length - (j + 1), by omega, _, j + 1, o', by omega, rfl, (hle.upto hup hout).setBox s4 _, (box_set_ne _ _ n1_4).trans k12, box_set _ _ _, own2.setBox, hout.next hle hno', holds.over ⟨rfl, by rw [List.take_succ_eq_append_getElem hlt, List.map_append]; rfl, rfl, trivial⟩⟩
  · have hge : j = l.length := by omega
    subst hge
    rw [List.getElem?_eq_none (Nat.le_refl _)] at k4
    repeat (first | refine LWp.condF rfl ?_ | refine LOps.nil ?_ | refine andThen_normal ?_ | refine andThen_exit ?_ | refine andThen_ret ?_ | refine inBlock_normal ?_ | refine inBlock_ret ?_ | refine inBlock_here ?_ | refine inBlock_out rfl ?_ | refine LWp.seq ?_ | refine LWp.region ?_ | refine LWp.block ?_ | refine LWp.exit ?_ | refine LWp.ret ?_ | refine LWp.skip ?_ | refine LOps.valA ?_ | refine LOps.outA ?_ | refine LOps.whenA ?_ | refine LOps.pickA ?_ | refine LOps.storeA ?_)
    exact ⟨_, LRes.sh (LRes.one rfl), by show TV.one (.sl .sh ((l.take l.length).map prL)) = _; rw [List.take_length], hle⟩

def eqPr (p q : Pr) : Bool := decide (p.key = q.key) && (decide (p.val = q.val) && true)
theorem eqPr_iff (p q : Pr) : eqPr p q = decide (p = q) := by
  cases p; cases q
  rw [Bool.eq_iff_iff]
  simp [eqPr]
def eqAns (a b : Ans) : Bool := (a.code == b.code) && ((a.found == b.found) && (decide (a.key = b.key) && (decide (a.val = b.val) && true)))
theorem eqAns_iff (a b : Ans) : eqAns a b = decide (a = b) := by
  cases a; cases b
  rw [Bool.eq_iff_iff]
  simp [eqAns]
def sameP (a b : List Pr) : Bool := decide (a = b)
set_option maxHeartbeats 4000000 in
theorem sameP_F {G : Ctx} (hP : G.P = Try.prog) (a b : List Pr) (hl : a.length ≤ 1000000) : LFun G 13 [.one (.sl .sh (a.map prL)), .one (.sl .sh (b.map prL))] (.one (bv (sameP a b))) := LFun.of fun S => by
  have hD : TabOK G.P D := by rw [hP]; exact hD0
  have ea : EqTy G.P D 50 := by rw [hP]; exact ⟨by kernel_rfl, by kernel_rfl⟩
  have hma : (a.map prL).length = a.length := List.length_map ..
  have hmb : (b.map prL).length = b.length := List.length_map ..
  refine LCalls.enter (fn := Try.f13) (by rw [hP]; exact Try.func13) rfl rfl ?_
  repeat (first | refine LOps.nil ?_ | refine andThen_normal ?_ | refine andThen_exit ?_ | refine andThen_ret ?_ | refine inBlock_normal ?_ | refine inBlock_ret ?_ | refine inBlock_here ?_ | refine inBlock_out rfl ?_ | refine LWp.seq ?_ | refine LWp.region ?_ | refine LWp.block ?_ | refine LWp.exit ?_ | refine LWp.ret ?_ | refine LWp.skip ?_ | refine LOps.valA ?_ | refine LOps.outA ?_ | refine LOps.whenA ?_ | refine LOps.pickA ?_ | refine LOps.storeA ?_)
  refine LWp.cond rfl (fun h => ?_) (fun h => ?_)
  · have h : (((a.map prL).length : Int) != ((b.map prL).length : Int)) = true := h
    rw [bne_iff_ne] at h
    have hne : a ≠ b := fun e => by rw [e] at h; exact h rfl
    repeat (first | refine LOps.nil ?_ | refine andThen_normal ?_ | refine andThen_exit ?_ | refine andThen_ret ?_ | refine inBlock_normal ?_ | refine inBlock_ret ?_ | refine inBlock_here ?_ | refine inBlock_out rfl ?_ | refine LWp.seq ?_ | refine LWp.region ?_ | refine LWp.block ?_ | refine LWp.exit ?_ | refine LWp.ret ?_ | refine LWp.skip ?_ | refine LOps.valA ?_ | refine LOps.outA ?_ | refine LOps.whenA ?_ | refine LOps.pickA ?_ | refine LOps.storeA ?_)
    exact ⟨_, LRes.one rfl, by rw [sameP, decide_eq_false hne]; rfl, .refl _⟩
  have h : (((a.map prL).length : Int) != ((b.map prL).length : Int)) = false := h
  have hlab : a.length = b.length := by
    have h2 : ((a.map prL).length : Int) = ((b.map prL).length : Int) := by simpa using h
    omega
  clear h
  repeat (first | refine LOps.nil ?_ | refine andThen_normal ?_ | refine andThen_exit ?_ | refine andThen_ret ?_ | refine inBlock_normal ?_ | refine inBlock_ret ?_ | refine inBlock_here ?_ | refine inBlock_out rfl ?_ | refine LWp.seq ?_ | refine LWp.region ?_ | refine LWp.block ?_ | refine LWp.exit ?_ | refine LWp.ret ?_ | refine LWp.skip ?_ | refine LOps.valA ?_ | refine LOps.outA ?_ | refine LOps.whenA ?_ | refine LOps.pickA ?_ | refine LOps.storeA ?_)
  refine LWp.loop (fun m T S' => S' = S ∧ ∃ (T' : Nat → TV) (j : Nat), j ≤ a.length ∧ m = a.length - j ∧ (∀ (i : Nat) (hi : i < j) (h1 : i < a.length), a[i] = b[i]'(by omega)) ∧ T = over T' [(0, .one (.sl .sh (a.map prL))), (1, .one (.sl .sh (b.map prL))), (5, .one (iv (j : Nat)))]) a.length ?_ ?_
  · exact ⟨rfl, _, 0, by omega, by omega, fun i hi => by omega, holds.over ⟨rfl, rfl, rfl, trivial⟩⟩
  rintro m T S' ⟨rfl, T', j, hj, rfl, hsame, rfl⟩
  repeat (first | refine LOps.nil ?_ | refine andThen_normal ?_ | refine andThen_exit ?_ | refine andThen_ret ?_ | refine inBlock_normal ?_ | refine inBlock_ret ?_ | refine inBlock_here ?_ | refine inBlock_out rfl ?_ | refine LWp.seq ?_ | refine LWp.region ?_ | refine LWp.block ?_ | refine LWp.exit ?_ | refine LWp.ret ?_ | refine LWp.skip ?_ | refine LOps.valA ?_ | refine LOps.outA ?_ | refine LOps.whenA ?_ | refine LOps.pickA ?_ | refine LOps.storeA ?_)
  refine LWp.cond rfl (fun h => ?_) (fun h => ?_)
  · have hlt : j < a.length := by simp at h; omega
    have hlt2 : j < b.length := by omega
    repeat (first | refine LOps.nil ?_ | refine andThen_normal ?_ | refine andThen_exit ?_ | refine andThen_ret ?_ | refine inBlock_normal ?_ | refine inBlock_ret ?_ | refine inBlock_here ?_ | refine inBlock_out rfl ?_ | refine LWp.seq ?_ | refine LWp.region ?_ | refine LWp.block ?_ | refine LWp.exit ?_ | refine LWp.ret ?_ | refine LWp.skip ?_ | refine LOps.valA ?_ | refine LOps.outA ?_ | refine LOps.whenA ?_ | refine LOps.pickA ?_ | refine LOps.storeA ?_)
    refine LWp.drawL [0, 1, 2, 3, 4, 5, 6, 7, 8] (by rw [hP]; rfl) rfl ?_
    repeat (first | refine LRl.nil ?_ | refine LRl.valA ?_ | refine LRl.outA ?_ | refine LRl.whenA ?_ | refine LRl.pickA ?_)
    repeat (first | refine LOps.nil ?_ | refine andThen_normal ?_ | refine andThen_exit ?_ | refine andThen_ret ?_ | refine inBlock_normal ?_ | refine inBlock_ret ?_ | refine inBlock_here ?_ | refine inBlock_out rfl ?_ | refine LWp.seq ?_ | refine LWp.region ?_ | refine LWp.block ?_ | refine LWp.exit ?_ | refine LWp.ret ?_ | refine LWp.skip ?_ | refine LOps.valA ?_ | refine LOps.outA ?_ | refine LOps.whenA ?_ | refine LOps.pickA ?_ | refine LOps.storeA ?_)
    refine LWp.cond rfl (fun h => ?_) (fun h => ?_)
    · have h : (!eqPr a[j] b[j]) = true := h
      rw [eqPr_iff] at h
      have hne : a ≠ b := fun e => by subst e; simp at h
      repeat (first | refine LOps.nil ?_ | refine andThen_normal ?_ | refine andThen_exit ?_ | refine andThen_ret ?_ | refine inBlock_normal ?_ | refine inBlock_ret ?_ | refine inBlock_here ?_ | refine inBlock_out rfl ?_ | refine LWp.seq ?_ | refine LWp.region ?_ | refine LWp.block ?_ | refine LWp.exit ?_ | refine LWp.ret ?_ | refine LWp.skip ?_ | refine LOps.valA ?_ | refine LOps.outA ?_ | refine LOps.whenA ?_ | refine LOps.pickA ?_ | refine LOps.storeA ?_)
      exact ⟨_, LRes.one rfl, by rw [sameP, decide_eq_false hne]; rfl, .refl _⟩
    · have h : (!eqPr a[j] b[j]) = false := h
      rw [eqPr_iff] at h
      repeat (first | refine LOps.nil ?_ | refine andThen_normal ?_ | refine andThen_exit ?_ | refine andThen_ret ?_ | refine inBlock_normal ?_ | refine inBlock_ret ?_ | refine inBlock_here ?_ | refine inBlock_out rfl ?_ | refine LWp.seq ?_ | refine LWp.region ?_ | refine LWp.block ?_ | refine LWp.exit ?_ | refine LWp.ret ?_ | refine LWp.skip ?_ | refine LOps.valA ?_ | refine LOps.outA ?_ | refine LOps.whenA ?_ | refine LOps.pickA ?_ | refine LOps.storeA ?_)
      refine ⟨a.length - (j + 1), by omega, rfl, _, j + 1, by omega, rfl, fun i hi h1 => ?_, holds.over ⟨rfl, rfl, rfl, trivial⟩⟩
      rcases Nat.lt_or_ge i j with h2 | h2
      · exact hsame i h2 h1
      · obtain rfl : i = j := by omega
        simpa using h
  · have hge : j = a.length := by simp at h; omega
    subst hge
    have e : a = b := List.ext_getElem hlab fun i h1 h2 => hsame i h1 h1
    repeat (first | refine LOps.nil ?_ | refine andThen_normal ?_ | refine andThen_exit ?_ | refine andThen_ret ?_ | refine inBlock_normal ?_ | refine inBlock_ret ?_ | refine inBlock_here ?_ | refine inBlock_out rfl ?_ | refine LWp.seq ?_ | refine LWp.region ?_ | refine LWp.block ?_ | refine LWp.exit ?_ | refine LWp.ret ?_ | refine LWp.skip ?_ | refine LOps.valA ?_ | refine LOps.outA ?_ | refine LOps.whenA ?_ | refine LOps.pickA ?_ | refine LOps.storeA ?_)
    exact ⟨_, LRes.one rfl, by rw [sameP, decide_eq_true e]; rfl, .refl _⟩

theorem badW_form (w : Wr) : (decide ((w.key.size : Int) > 24) || (!w.gone && decide ((w.val.size : Int) > 32))) = badW w := by
  unfold badW largeS
  have e : ((noBytes.size : Int) > 32) = False := by simp [ByteArray.size]
  have e2 : ((noBytes.size : Int) > 24) = False := by simp [ByteArray.size]
  simp [e, e2]
theorem large_key (k : ByteArray) : largeS k noBytes = decide ((k.size : Int) > 24) := by
  unfold largeS
  have e : ((noBytes.size : Int) > 32) = False := by simp [ByteArray.size]
  simp [e]
theorem large_val (v : ByteArray) : largeS noBytes v = decide ((v.size : Int) > 32) := by
  unfold largeS
  have e : ((noBytes.size : Int) > 24) = False := by simp [ByteArray.size]
  simp [e]

set_option maxHeartbeats 8000000 in
theorem refusedW_F {G : Ctx} (hP : G.P = Try.prog) (o : OpV) (hw : o.writes.length ≤ 1000000) : LFun G 19 [.agg (opL o)] (.one (iv (refusedO o))) := LFun.of fun S => by
  have hD : TabOK G.P D := by rw [hP]; exact hD0
  have hml : (o.writes.map wrL).length = o.writes.length := List.length_map ..
  refine LCalls.enter (fn := Try.f19) (by rw [hP]; exact Try.func19) rfl rfl ?_
  repeat (first | refine LOps.nil ?_ | refine andThen_normal ?_ | refine andThen_exit ?_ | refine andThen_ret ?_ | refine inBlock_normal ?_ | refine inBlock_ret ?_ | refine inBlock_here ?_ | refine inBlock_out rfl ?_ | refine LWp.seq ?_ | refine LWp.region ?_ | refine LWp.block ?_ | refine LWp.exit ?_ | refine LWp.ret ?_ | refine LWp.skip ?_ | refine LOps.valA ?_ | refine LOps.outA ?_ | refine LOps.whenA ?_ | refine LOps.pickA ?_ | refine LOps.storeA ?_)
  refine LOps.do (LDo.box rfl rfl) rfl rfl rfl ?_
  rintro _ _ ⟨b1, hb1, rfl, rfl⟩
  have hle := LS.le.newBox (.refl S) hb1 (opL o)
  have k1 := box_new S b1 (opL o)
  refine LOps.gen (fun S1 => S.le S1 ∧ S1.box b1 = some (opL o)) ⟨hle, k1⟩ ?_
  clear k1 hle hb1
  rintro S1 ⟨hle, k1⟩
  by_cases h1 : o.kind = 1
  · have e : refusedO o = refusalS (decide ((o.key.size : Int) > 24)) 7 := by rw [refusedO, if_pos (by omega), large_key]
    clear hml
    repeat (first | refine LWp.condT rfl ?_ | refine LOps.valH (LVal.to (LVal.binOp hD rfl rfl rfl rfl) (r' := .one (.v (.bool true))) (congrArg (fun b => TV.one (.v (.bool b))) (by first | exact decide_eq_true (by omega) | (rw [beq_iff_eq]; omega) | (rw [bne_iff_ne]; omega)))) ?_ | refine LOps.valH (LVal.to (LVal.binOp hD rfl rfl rfl rfl) (r' := .one (.v (.bool false))) (congrArg (fun b => TV.one (.v (.bool b))) (by first | exact decide_eq_false (by omega) | (rw [beq_eq_false_iff_ne]; omega) | (rw [bne_eq_false_iff_eq]; omega)))) ?_ | refine LOps.valW ?_ | refine LOps.nil ?_ | refine andThen_normal ?_ | refine andThen_exit ?_ | refine andThen_ret ?_ | refine inBlock_normal ?_ | refine inBlock_ret ?_ | refine inBlock_here ?_ | refine inBlock_out rfl ?_ | refine LWp.seq ?_ | refine LWp.region ?_ | refine LWp.block ?_ | refine LWp.exit ?_ | refine LWp.ret ?_ | refine LWp.skip ?_ | refine LOps.valA ?_ | refine LOps.outA ?_ | refine LOps.whenA ?_ | refine LOps.pickA ?_ | refine LOps.storeA ?_)
    refine LWp.cond rfl (fun h => ?_) (fun h => ?_)
    · have h : decide ((o.key.size : Int) > 24) = true := h
      repeat (first | refine LOps.nil ?_ | refine andThen_normal ?_ | refine andThen_exit ?_ | refine andThen_ret ?_ | refine inBlock_normal ?_ | refine inBlock_ret ?_ | refine inBlock_here ?_ | refine inBlock_out rfl ?_ | refine LWp.seq ?_ | refine LWp.region ?_ | refine LWp.block ?_ | refine LWp.exit ?_ | refine LWp.ret ?_ | refine LWp.skip ?_ | refine LOps.valA ?_ | refine LOps.outA ?_ | refine LOps.whenA ?_ | refine LOps.pickA ?_ | refine LOps.storeA ?_)
      exact ⟨_, LRes.one rfl, by rw [e, h]; rfl, hle⟩
    · have h : decide ((o.key.size : Int) > 24) = false := h
      repeat (first | refine LOps.nil ?_ | refine andThen_normal ?_ | refine andThen_exit ?_ | refine andThen_ret ?_ | refine inBlock_normal ?_ | refine inBlock_ret ?_ | refine inBlock_here ?_ | refine inBlock_out rfl ?_ | refine LWp.seq ?_ | refine LWp.region ?_ | refine LWp.block ?_ | refine LWp.exit ?_ | refine LWp.ret ?_ | refine LWp.skip ?_ | refine LOps.valA ?_ | refine LOps.outA ?_ | refine LOps.whenA ?_ | refine LOps.pickA ?_ | refine LOps.storeA ?_)
      exact ⟨_, LRes.one rfl, by rw [e, h]; rfl, hle⟩
  by_cases h3 : o.kind = 3
  · have e : refusedO o = refusalS (decide ((o.key.size : Int) > 24)) 7 := by rw [refusedO, if_pos (by omega), large_key]
    clear hml
    repeat (first | refine LWp.condT rfl ?_ | refine LWp.condF rfl ?_ | refine LOps.valH (LVal.to (LVal.binOp hD rfl rfl rfl rfl) (r' := .one (.v (.bool true))) (congrArg (fun b => TV.one (.v (.bool b))) (by first | exact decide_eq_true (by omega) | (rw [beq_iff_eq]; omega) | (rw [bne_iff_ne]; omega)))) ?_ | refine LOps.valH (LVal.to (LVal.binOp hD rfl rfl rfl rfl) (r' := .one (.v (.bool false))) (congrArg (fun b => TV.one (.v (.bool b))) (by first | exact decide_eq_false (by omega) | (rw [beq_eq_false_iff_ne]; omega) | (rw [bne_eq_false_iff_eq]; omega)))) ?_ | refine LOps.valW ?_ | refine LOps.nil ?_ | refine andThen_normal ?_ | refine andThen_exit ?_ | refine andThen_ret ?_ | refine inBlock_normal ?_ | refine inBlock_ret ?_ | refine inBlock_here ?_ | refine inBlock_out rfl ?_ | refine LWp.seq ?_ | refine LWp.region ?_ | refine LWp.block ?_ | refine LWp.exit ?_ | refine LWp.ret ?_ | refine LWp.skip ?_ | refine LOps.valA ?_ | refine LOps.outA ?_ | refine LOps.whenA ?_ | refine LOps.pickA ?_ | refine LOps.storeA ?_)
    refine LWp.cond rfl (fun h => ?_) (fun h => ?_)
    · have h : decide ((o.key.size : Int) > 24) = true := h
      repeat (first | refine LOps.nil ?_ | refine andThen_normal ?_ | refine andThen_exit ?_ | refine andThen_ret ?_ | refine inBlock_normal ?_ | refine inBlock_ret ?_ | refine inBlock_here ?_ | refine inBlock_out rfl ?_ | refine LWp.seq ?_ | refine LWp.region ?_ | refine LWp.block ?_ | refine LWp.exit ?_ | refine LWp.ret ?_ | refine LWp.skip ?_ | refine LOps.valA ?_ | refine LOps.outA ?_ | refine LOps.whenA ?_ | refine LOps.pickA ?_ | refine LOps.storeA ?_)
      exact ⟨_, LRes.one rfl, by rw [e, h]; rfl, hle⟩
    · have h : decide ((o.key.size : Int) > 24) = false := h
      repeat (first | refine LOps.nil ?_ | refine andThen_normal ?_ | refine andThen_exit ?_ | refine andThen_ret ?_ | refine inBlock_normal ?_ | refine inBlock_ret ?_ | refine inBlock_here ?_ | refine inBlock_out rfl ?_ | refine LWp.seq ?_ | refine LWp.region ?_ | refine LWp.block ?_ | refine LWp.exit ?_ | refine LWp.ret ?_ | refine LWp.skip ?_ | refine LOps.valA ?_ | refine LOps.outA ?_ | refine LOps.whenA ?_ | refine LOps.pickA ?_ | refine LOps.storeA ?_)
      exact ⟨_, LRes.one rfl, by rw [e, h]; rfl, hle⟩
  by_cases h5 : o.kind = 5
  · have e : refusedO o = refusalS (decide ((o.key.size : Int) > 24)) 7 := by rw [refusedO, if_pos (by omega), large_key]
    clear hml
    repeat (first | refine LWp.condT rfl ?_ | refine LWp.condF rfl ?_ | refine LOps.valH (LVal.to (LVal.binOp hD rfl rfl rfl rfl) (r' := .one (.v (.bool true))) (congrArg (fun b => TV.one (.v (.bool b))) (by first | exact decide_eq_true (by omega) | (rw [beq_iff_eq]; omega) | (rw [bne_iff_ne]; omega)))) ?_ | refine LOps.valH (LVal.to (LVal.binOp hD rfl rfl rfl rfl) (r' := .one (.v (.bool false))) (congrArg (fun b => TV.one (.v (.bool b))) (by first | exact decide_eq_false (by omega) | (rw [beq_eq_false_iff_ne]; omega) | (rw [bne_eq_false_iff_eq]; omega)))) ?_ | refine LOps.valW ?_ | refine LOps.nil ?_ | refine andThen_normal ?_ | refine andThen_exit ?_ | refine andThen_ret ?_ | refine inBlock_normal ?_ | refine inBlock_ret ?_ | refine inBlock_here ?_ | refine inBlock_out rfl ?_ | refine LWp.seq ?_ | refine LWp.region ?_ | refine LWp.block ?_ | refine LWp.exit ?_ | refine LWp.ret ?_ | refine LWp.skip ?_ | refine LOps.valA ?_ | refine LOps.outA ?_ | refine LOps.whenA ?_ | refine LOps.pickA ?_ | refine LOps.storeA ?_)
    refine LWp.cond rfl (fun h => ?_) (fun h => ?_)
    · have h : decide ((o.key.size : Int) > 24) = true := h
      repeat (first | refine LOps.nil ?_ | refine andThen_normal ?_ | refine andThen_exit ?_ | refine andThen_ret ?_ | refine inBlock_normal ?_ | refine inBlock_ret ?_ | refine inBlock_here ?_ | refine inBlock_out rfl ?_ | refine LWp.seq ?_ | refine LWp.region ?_ | refine LWp.block ?_ | refine LWp.exit ?_ | refine LWp.ret ?_ | refine LWp.skip ?_ | refine LOps.valA ?_ | refine LOps.outA ?_ | refine LOps.whenA ?_ | refine LOps.pickA ?_ | refine LOps.storeA ?_)
      exact ⟨_, LRes.one rfl, by rw [e, h]; rfl, hle⟩
    · have h : decide ((o.key.size : Int) > 24) = false := h
      repeat (first | refine LOps.nil ?_ | refine andThen_normal ?_ | refine andThen_exit ?_ | refine andThen_ret ?_ | refine inBlock_normal ?_ | refine inBlock_ret ?_ | refine inBlock_here ?_ | refine inBlock_out rfl ?_ | refine LWp.seq ?_ | refine LWp.region ?_ | refine LWp.block ?_ | refine LWp.exit ?_ | refine LWp.ret ?_ | refine LWp.skip ?_ | refine LOps.valA ?_ | refine LOps.outA ?_ | refine LOps.whenA ?_ | refine LOps.pickA ?_ | refine LOps.storeA ?_)
      exact ⟨_, LRes.one rfl, by rw [e, h]; rfl, hle⟩
  by_cases h2 : o.kind = 2
  · have e : refusedO o = refusalS (decide ((o.key.size : Int) > 24) || decide ((o.val.size : Int) > 32)) 7 := by rw [refusedO, if_neg (by omega), if_pos h2]; rfl
    repeat (first | refine LWp.condT rfl ?_ | refine LWp.condF rfl ?_ | refine LOps.valH (LVal.to (LVal.binOp hD rfl rfl rfl rfl) (r' := .one (.v (.bool true))) (congrArg (fun b => TV.one (.v (.bool b))) (by first | exact decide_eq_true (by omega) | (rw [beq_iff_eq]; omega) | (rw [bne_iff_ne]; omega)))) ?_ | refine LOps.valH (LVal.to (LVal.binOp hD rfl rfl rfl rfl) (r' := .one (.v (.bool false))) (congrArg (fun b => TV.one (.v (.bool b))) (by first | exact decide_eq_false (by omega) | (rw [beq_eq_false_iff_ne]; omega) | (rw [bne_eq_false_iff_eq]; omega)))) ?_ | refine LOps.valW ?_ | refine LOps.nil ?_ | refine andThen_normal ?_ | refine andThen_exit ?_ | refine andThen_ret ?_ | refine inBlock_normal ?_ | refine inBlock_ret ?_ | refine inBlock_here ?_ | refine inBlock_out rfl ?_ | refine LWp.seq ?_ | refine LWp.region ?_ | refine LWp.block ?_ | refine LWp.exit ?_ | refine LWp.ret ?_ | refine LWp.skip ?_ | refine LOps.valA ?_ | refine LOps.outA ?_ | refine LOps.whenA ?_ | refine LOps.pickA ?_ | refine LOps.storeA ?_)
    refine LWp.cond rfl (fun h => ?_) (fun h => ?_)
    · have h : (decide ((o.key.size : Int) > 24) || decide ((o.val.size : Int) > 32)) = true := h
      repeat (first | refine LOps.nil ?_ | refine andThen_normal ?_ | refine andThen_exit ?_ | refine andThen_ret ?_ | refine inBlock_normal ?_ | refine inBlock_ret ?_ | refine inBlock_here ?_ | refine inBlock_out rfl ?_ | refine LWp.seq ?_ | refine LWp.region ?_ | refine LWp.block ?_ | refine LWp.exit ?_ | refine LWp.ret ?_ | refine LWp.skip ?_ | refine LOps.valA ?_ | refine LOps.outA ?_ | refine LOps.whenA ?_ | refine LOps.pickA ?_ | refine LOps.storeA ?_)
      exact ⟨_, LRes.one rfl, by rw [e, h]; rfl, hle⟩
    · have h : (decide ((o.key.size : Int) > 24) || decide ((o.val.size : Int) > 32)) = false := h
      repeat (first | refine LOps.nil ?_ | refine andThen_normal ?_ | refine andThen_exit ?_ | refine andThen_ret ?_ | refine inBlock_normal ?_ | refine inBlock_ret ?_ | refine inBlock_here ?_ | refine inBlock_out rfl ?_ | refine LWp.seq ?_ | refine LWp.region ?_ | refine LWp.block ?_ | refine LWp.exit ?_ | refine LWp.ret ?_ | refine LWp.skip ?_ | refine LOps.valA ?_ | refine LOps.outA ?_ | refine LOps.whenA ?_ | refine LOps.pickA ?_ | refine LOps.storeA ?_)
      exact ⟨_, LRes.one rfl, by rw [e, h]; rfl, hle⟩
  by_cases h4 : o.kind = 4
  · have e : refusedO o = refusalS ((decide ((o.key.size : Int) > 24) || decide ((o.val.size : Int) > 32)) || (o.had && decide ((o.old.size : Int) > 32))) 7 := by rw [refusedO, if_neg (by omega), if_neg (by omega), if_pos h4, large_val]; rfl
    repeat (first | refine LWp.condT rfl ?_ | refine LWp.condF rfl ?_ | refine LOps.valH (LVal.to (LVal.binOp hD rfl rfl rfl rfl) (r' := .one (.v (.bool true))) (congrArg (fun b => TV.one (.v (.bool b))) (by first | exact decide_eq_true (by omega) | (rw [beq_iff_eq]; omega) | (rw [bne_iff_ne]; omega)))) ?_ | refine LOps.valH (LVal.to (LVal.binOp hD rfl rfl rfl rfl) (r' := .one (.v (.bool false))) (congrArg (fun b => TV.one (.v (.bool b))) (by first | exact decide_eq_false (by omega) | (rw [beq_eq_false_iff_ne]; omega) | (rw [bne_eq_false_iff_eq]; omega)))) ?_ | refine LOps.valW ?_ | refine LOps.nil ?_ | refine andThen_normal ?_ | refine andThen_exit ?_ | refine andThen_ret ?_ | refine inBlock_normal ?_ | refine inBlock_ret ?_ | refine inBlock_here ?_ | refine inBlock_out rfl ?_ | refine LWp.seq ?_ | refine LWp.region ?_ | refine LWp.block ?_ | refine LWp.exit ?_ | refine LWp.ret ?_ | refine LWp.skip ?_ | refine LOps.valA ?_ | refine LOps.outA ?_ | refine LOps.whenA ?_ | refine LOps.pickA ?_ | refine LOps.storeA ?_)
    refine LWp.cond rfl (fun h => ?_) (fun h => ?_)
    · have h : ((decide ((o.key.size : Int) > 24) || decide ((o.val.size : Int) > 32)) || (o.had && decide ((o.old.size : Int) > 32))) = true := h
      repeat (first | refine LOps.nil ?_ | refine andThen_normal ?_ | refine andThen_exit ?_ | refine andThen_ret ?_ | refine inBlock_normal ?_ | refine inBlock_ret ?_ | refine inBlock_here ?_ | refine inBlock_out rfl ?_ | refine LWp.seq ?_ | refine LWp.region ?_ | refine LWp.block ?_ | refine LWp.exit ?_ | refine LWp.ret ?_ | refine LWp.skip ?_ | refine LOps.valA ?_ | refine LOps.outA ?_ | refine LOps.whenA ?_ | refine LOps.pickA ?_ | refine LOps.storeA ?_)
      exact ⟨_, LRes.one rfl, by rw [e, h]; rfl, hle⟩
    · have h : ((decide ((o.key.size : Int) > 24) || decide ((o.val.size : Int) > 32)) || (o.had && decide ((o.old.size : Int) > 32))) = false := h
      repeat (first | refine LOps.nil ?_ | refine andThen_normal ?_ | refine andThen_exit ?_ | refine andThen_ret ?_ | refine inBlock_normal ?_ | refine inBlock_ret ?_ | refine inBlock_here ?_ | refine inBlock_out rfl ?_ | refine LWp.seq ?_ | refine LWp.region ?_ | refine LWp.block ?_ | refine LWp.exit ?_ | refine LWp.ret ?_ | refine LWp.skip ?_ | refine LOps.valA ?_ | refine LOps.outA ?_ | refine LOps.whenA ?_ | refine LOps.pickA ?_ | refine LOps.storeA ?_)
      exact ⟨_, LRes.one rfl, by rw [e, h]; rfl, hle⟩
  by_cases h6 : o.kind = 6
  · by_cases hlong : o.writes.length > 8
    · have hl' : ((o.writes.map wrL).length : Int) > 8 := by omega
      repeat (first | refine LWp.condT rfl ?_ | refine LWp.condF rfl ?_ | refine LOps.valH (LVal.to (LVal.binOp hD rfl rfl rfl rfl) (r' := .one (.v (.bool true))) (congrArg (fun b => TV.one (.v (.bool b))) (by first | exact decide_eq_true (by omega) | (rw [beq_iff_eq]; omega) | (rw [bne_iff_ne]; omega)))) ?_ | refine LOps.valH (LVal.to (LVal.binOp hD rfl rfl rfl rfl) (r' := .one (.v (.bool false))) (congrArg (fun b => TV.one (.v (.bool b))) (by first | exact decide_eq_false (by omega) | (rw [beq_eq_false_iff_ne]; omega) | (rw [bne_eq_false_iff_eq]; omega)))) ?_ | refine LOps.valW ?_ | refine LOps.nil ?_ | refine andThen_normal ?_ | refine andThen_exit ?_ | refine andThen_ret ?_ | refine inBlock_normal ?_ | refine inBlock_ret ?_ | refine inBlock_here ?_ | refine inBlock_out rfl ?_ | refine LWp.seq ?_ | refine LWp.region ?_ | refine LWp.block ?_ | refine LWp.exit ?_ | refine LWp.ret ?_ | refine LWp.skip ?_ | refine LOps.valA ?_ | refine LOps.outA ?_ | refine LOps.whenA ?_ | refine LOps.pickA ?_ | refine LOps.storeA ?_)
      exact ⟨_, LRes.one rfl, by rw [refusedO, if_neg (by omega), if_neg (by omega), if_neg (by omega), if_pos h6, if_pos hlong]; rfl, hle⟩
    have hl' : ¬ ((o.writes.map wrL).length : Int) > 8 := by omega
    have e : refusedO o = refusalS (o.writes.any badW) 7 := by rw [refusedO, if_neg (by omega), if_neg (by omega), if_neg (by omega), if_pos h6, if_neg hlong]
    repeat (first | refine LWp.condT rfl ?_ | refine LWp.condF rfl ?_ | refine LOps.valH (LVal.to (LVal.binOp hD rfl rfl rfl rfl) (r' := .one (.v (.bool true))) (congrArg (fun b => TV.one (.v (.bool b))) (by first | exact decide_eq_true (by omega) | (rw [beq_iff_eq]; omega) | (rw [bne_iff_ne]; omega)))) ?_ | refine LOps.valH (LVal.to (LVal.binOp hD rfl rfl rfl rfl) (r' := .one (.v (.bool false))) (congrArg (fun b => TV.one (.v (.bool b))) (by first | exact decide_eq_false (by omega) | (rw [beq_eq_false_iff_ne]; omega) | (rw [bne_eq_false_iff_eq]; omega)))) ?_ | refine LOps.valW ?_ | refine LOps.nil ?_ | refine andThen_normal ?_ | refine andThen_exit ?_ | refine andThen_ret ?_ | refine inBlock_normal ?_ | refine inBlock_ret ?_ | refine inBlock_here ?_ | refine inBlock_out rfl ?_ | refine LWp.seq ?_ | refine LWp.region ?_ | refine LWp.block ?_ | refine LWp.exit ?_ | refine LWp.ret ?_ | refine LWp.skip ?_ | refine LOps.valA ?_ | refine LOps.outA ?_ | refine LOps.whenA ?_ | refine LOps.pickA ?_ | refine LOps.storeA ?_)
    refine LWp.loop (fun m T S' => S' = S1 ∧ ∃ (T' : Nat → TV) (j : Nat), j ≤ o.writes.length ∧ m = o.writes.length - j ∧ (∀ (i : Nat) (hi : i < j) (h1 : i < o.writes.length), badW o.writes[i] = false) ∧ T = over T' [(1, ptr b1), (3, .one (iv (j : Nat)))]) o.writes.length ?_ ?_
    · exact ⟨rfl, _, 0, by omega, by omega, fun i hi => by omega, holds.over ⟨rfl, rfl, trivial⟩⟩
    rintro m T S' ⟨rfl, T', j, hj, rfl, hno, rfl⟩
    repeat (first | refine LOps.nil ?_ | refine andThen_normal ?_ | refine andThen_exit ?_ | refine andThen_ret ?_ | refine inBlock_normal ?_ | refine inBlock_ret ?_ | refine inBlock_here ?_ | refine inBlock_out rfl ?_ | refine LWp.seq ?_ | refine LWp.region ?_ | refine LWp.block ?_ | refine LWp.exit ?_ | refine LWp.ret ?_ | refine LWp.skip ?_ | refine LOps.valA ?_ | refine LOps.outA ?_ | refine LOps.whenA ?_ | refine LOps.pickA ?_ | refine LOps.storeA ?_)
    refine LWp.cond rfl (fun h => ?_) (fun h => ?_)
    · have hlt : j < o.writes.length := by simp at h; omega
      repeat (first | refine LOps.nil ?_ | refine andThen_normal ?_ | refine andThen_exit ?_ | refine andThen_ret ?_ | refine inBlock_normal ?_ | refine inBlock_ret ?_ | refine inBlock_here ?_ | refine inBlock_out rfl ?_ | refine LWp.seq ?_ | refine LWp.region ?_ | refine LWp.block ?_ | refine LWp.exit ?_ | refine LWp.ret ?_ | refine LWp.skip ?_ | refine LOps.valA ?_ | refine LOps.outA ?_ | refine LOps.whenA ?_ | refine LOps.pickA ?_ | refine LOps.storeA ?_)
      refine LWp.cond rfl (fun h => ?_) (fun h => ?_)
      · have h : (decide ((o.writes[j].key.size : Int) > 24) || (!o.writes[j].gone && decide ((o.writes[j].val.size : Int) > 32))) = true := h
        rw [badW_form] at h
        have h2 : o.writes.any badW = true := List.any_eq_true.2 ⟨_, List.getElem_mem hlt, h⟩
        repeat (first | refine LOps.nil ?_ | refine andThen_normal ?_ | refine andThen_exit ?_ | refine andThen_ret ?_ | refine inBlock_normal ?_ | refine inBlock_ret ?_ | refine inBlock_here ?_ | refine inBlock_out rfl ?_ | refine LWp.seq ?_ | refine LWp.region ?_ | refine LWp.block ?_ | refine LWp.exit ?_ | refine LWp.ret ?_ | refine LWp.skip ?_ | refine LOps.valA ?_ | refine LOps.outA ?_ | refine LOps.whenA ?_ | refine LOps.pickA ?_ | refine LOps.storeA ?_)
        exact ⟨_, LRes.one rfl, by rw [e, h2]; rfl, hle⟩
      · have h : (decide ((o.writes[j].key.size : Int) > 24) || (!o.writes[j].gone && decide ((o.writes[j].val.size : Int) > 32))) = false := h
        rw [badW_form] at h
        repeat (first | refine LOps.nil ?_ | refine andThen_normal ?_ | refine andThen_exit ?_ | refine andThen_ret ?_ | refine inBlock_normal ?_ | refine inBlock_ret ?_ | refine inBlock_here ?_ | refine inBlock_out rfl ?_ | refine LWp.seq ?_ | refine LWp.region ?_ | refine LWp.block ?_ | refine LWp.exit ?_ | refine LWp.ret ?_ | refine LWp.skip ?_ | refine LOps.valA ?_ | refine LOps.outA ?_ | refine LOps.whenA ?_ | refine LOps.pickA ?_ | refine LOps.storeA ?_)
        refine ⟨o.writes.length - (j + 1), by omega, rfl, _, j + 1, by omega, rfl, fun i hi h1 => ?_, holds.over ⟨rfl, rfl, trivial⟩⟩
        rcases Nat.lt_or_ge i j with h2 | h2
        · exact hno i h2 h1
        · obtain rfl : i = j := by omega
          exact h
    · have hge : j = o.writes.length := by simp at h; omega
      subst hge
      have h2 : o.writes.any badW = false := by
        rw [List.any_eq_false]
        intro w hw
        obtain ⟨i, hi, rfl⟩ := List.getElem_of_mem hw
        rw [hno i hi hi]; decide
      repeat (first | refine LOps.nil ?_ | refine andThen_normal ?_ | refine andThen_exit ?_ | refine andThen_ret ?_ | refine inBlock_normal ?_ | refine inBlock_ret ?_ | refine inBlock_here ?_ | refine inBlock_out rfl ?_ | refine LWp.seq ?_ | refine LWp.region ?_ | refine LWp.block ?_ | refine LWp.exit ?_ | refine LWp.ret ?_ | refine LWp.skip ?_ | refine LOps.valA ?_ | refine LOps.outA ?_ | refine LOps.whenA ?_ | refine LOps.pickA ?_ | refine LOps.storeA ?_)
      exact ⟨_, LRes.one rfl, by rw [e, h2]; rfl, hle⟩
  · repeat (first | refine LWp.condT rfl ?_ | refine LWp.condF rfl ?_ | refine LOps.valH (LVal.to (LVal.binOp hD rfl rfl rfl rfl) (r' := .one (.v (.bool true))) (congrArg (fun b => TV.one (.v (.bool b))) (by first | exact decide_eq_true (by omega) | (rw [beq_iff_eq]; omega) | (rw [bne_iff_ne]; omega)))) ?_ | refine LOps.valH (LVal.to (LVal.binOp hD rfl rfl rfl rfl) (r' := .one (.v (.bool false))) (congrArg (fun b => TV.one (.v (.bool b))) (by first | exact decide_eq_false (by omega) | (rw [beq_eq_false_iff_ne]; omega) | (rw [bne_eq_false_iff_eq]; omega)))) ?_ | refine LOps.valW ?_ | refine LOps.nil ?_ | refine andThen_normal ?_ | refine andThen_exit ?_ | refine andThen_ret ?_ | refine inBlock_normal ?_ | refine inBlock_ret ?_ | refine inBlock_here ?_ | refine inBlock_out rfl ?_ | refine LWp.seq ?_ | refine LWp.region ?_ | refine LWp.block ?_ | refine LWp.exit ?_ | refine LWp.ret ?_ | refine LWp.skip ?_ | refine LOps.valA ?_ | refine LOps.outA ?_ | refine LOps.whenA ?_ | refine LOps.pickA ?_ | refine LOps.storeA ?_)
    exact ⟨_, LRes.one rfl, by rw [refusedO, if_neg (by omega), if_neg (by omega), if_neg (by omega), if_neg (by omega)]; rfl, hle⟩
end Go.Proofs.Ytndcdmmmfplbbaa.LF
