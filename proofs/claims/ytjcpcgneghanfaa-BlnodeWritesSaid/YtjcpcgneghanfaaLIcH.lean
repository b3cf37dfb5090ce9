/- slices.Clone of a row that stays, for the element type marshalling/api.Handle. (Printed by gen_slices.sh.) -/
import Derived.Test.YtjcpcgneghanfaaLRw
import Derived.Test.YtjcpcgneghanfaaLGa
import Derived.Test.YtjcpcgneghanfaaLFtab
set_option linter.unusedVariables false
set_option linter.unusedSimpArgs false
namespace Go.Proofs.Ytjcpcgneghanfaa.LF
open Go.RowKit
set_option linter.unusedVariables false

set_option maxHeartbeats 4000000 in
theorem cloneSH_L {G : Ctx} (hP : G.P = Try.prog) {α : Type} {f : α → List LV} (hz : ∀ x, (f x).length = 2) (l : List α) (S : LS) (hsm : l.length ≤ 1000000) :
    LCalls G 46 [.one (.sl .sh (l.map f))] (fun R S' => ∃ X', R = .one X' ∧ SlAt f 2 S' X' l ∧ S.le S' ∧ ∀ b, blockOf X' = some b → S.box b = none) S := by
  have hD : TabOK G.P D := by rw [hP]; exact hD0
  have hel : ∀ e ∈ l.map f, e.length = 2 := fun e he => by
    obtain ⟨x, _, rfl⟩ := List.mem_map.1 he
    exact hz x
  refine LCalls.enter (fn := Try.f46) (by rw [hP]; exact Try.func46) rfl rfl ?_
  repeat (first | refine LOps.nil ?_ | refine andThen_normal ?_ | refine andThen_exit ?_ | refine andThen_ret ?_ | refine inBlock_normal ?_ | refine inBlock_ret ?_ | refine inBlock_here ?_ | refine inBlock_out rfl ?_ | refine LWp.seq ?_ | refine LWp.region ?_ | refine LWp.block ?_ | refine LWp.exit ?_ | refine LWp.ret ?_ | refine LWp.skip ?_ | refine LOps.valA ?_ | refine LOps.outA ?_ | refine LOps.whenA ?_ | refine LOps.pickA ?_ | refine LOps.storeA ?_)
  refine LOps.do (LDo.eqNil hD rfl rfl rfl rfl) rfl rfl rfl ?_
  rintro _ S1 ⟨q, rfl, hS1, hq⟩
  subst hS1
  repeat (first | refine LOps.nil ?_ | refine andThen_normal ?_ | refine andThen_exit ?_ | refine andThen_ret ?_ | refine inBlock_normal ?_ | refine inBlock_ret ?_ | refine inBlock_here ?_ | refine inBlock_out rfl ?_ | refine LWp.seq ?_ | refine LWp.region ?_ | refine LWp.block ?_ | refine LWp.exit ?_ | refine LWp.ret ?_ | refine LWp.skip ?_ | refine LOps.valA ?_ | refine LOps.outA ?_ | refine LOps.whenA ?_ | refine LOps.pickA ?_ | refine LOps.storeA ?_)
  refine LWp.cond rfl (fun h => ?_) (fun h => ?_)
  · have h : q = true := h
    have e := hq h
    obtain rfl : l = [] := by simpa using e
    repeat (first | refine LOps.nil ?_ | refine andThen_normal ?_ | refine andThen_exit ?_ | refine andThen_ret ?_ | refine inBlock_normal ?_ | refine inBlock_ret ?_ | refine inBlock_here ?_ | refine inBlock_out rfl ?_ | refine LWp.seq ?_ | refine LWp.region ?_ | refine LWp.block ?_ | refine LWp.exit ?_ | refine LWp.ret ?_ | refine LWp.skip ?_ | refine LOps.valA ?_ | refine LOps.outA ?_ | refine LOps.whenA ?_ | refine LOps.pickA ?_ | refine LOps.storeA ?_)
    exact ⟨_, LRes.one rfl, _, rfl, .nil, .refl _, fun b hb => by cases hb⟩
  repeat (first | (refine LOps.do (LDo.buildSliceR (n := 0) (ps := []) (lp := []) (l := []) hD rfl rfl rfl rfl rfl rfl rfl rfl rfl rfl rfl) rfl rfl rfl ?_; rintro _ _ ⟨b1, hb1, rfl, rfl⟩) | refine LOps.nil ?_ | refine andThen_normal ?_ | refine andThen_exit ?_ | refine andThen_ret ?_ | refine inBlock_normal ?_ | refine inBlock_ret ?_ | refine inBlock_here ?_ | refine inBlock_out rfl ?_ | refine LWp.seq ?_ | refine LWp.region ?_ | refine LWp.block ?_ | refine LWp.exit ?_ | refine LWp.ret ?_ | refine LWp.skip ?_ | refine LOps.valA ?_ | refine LOps.outA ?_ | refine LOps.whenA ?_ | refine LOps.pickA ?_ | refine LOps.storeA ?_)
  have hle := LS.le.newBox (.refl S1) hb1 ([] : List LV)
  have hsrc := SrcL.sl (S := S1.newBox b1 []) (z := 2) .sh (l.map f) hel
  rw [List.length_map] at hsrc
  by_cases h0 : l = []
  · subst h0
    refine LOps.do (LDo.appendRoomR (m := 0) (l := []) hD rfl rfl rfl rfl rfl rfl rfl (box_new _ _ _) (by decide) hsrc (by decide)) rfl rfl rfl ?_
    rintro _ _ ⟨rfl, rfl⟩
    repeat (first | refine LOps.nil ?_ | refine andThen_normal ?_ | refine andThen_exit ?_ | refine andThen_ret ?_ | refine inBlock_normal ?_ | refine inBlock_ret ?_ | refine inBlock_here ?_ | refine inBlock_out rfl ?_ | refine LWp.seq ?_ | refine LWp.region ?_ | refine LWp.block ?_ | refine LWp.exit ?_ | refine LWp.ret ?_ | refine LWp.skip ?_ | refine LOps.valA ?_ | refine LOps.outA ?_ | refine LOps.whenA ?_ | refine LOps.pickA ?_ | refine LOps.storeA ?_)
    refine ⟨_, LRes.one rfl, _, rfl, SlAt.row b1 0 [] [] ⟨box_set _ _ _, rfl, Nat.le_refl _⟩, hle.setBox hb1.box _, fun b hb => ?_⟩
    obtain rfl : b1 = b := by simpa [blockOf] using hb
    exact hb1.box
  have hpos : 0 < l.length := List.length_pos_iff.2 h0
  refine LOps.do (LDo.appendGrowR (n := 0) (c := 0) (m := l.length) (l := []) hD rfl rfl rfl rfl rfl rfl rfl rfl rfl (.inl ⟨_, rfl⟩) (.all (box_new _ _ _) rfl) hsrc (by omega) (by omega)) rfl rfl rfl ?_
  rintro _ _ ⟨b', c', hb', hc', rfl, rfl⟩
  repeat (first | refine LOps.nil ?_ | refine andThen_normal ?_ | refine andThen_exit ?_ | refine andThen_ret ?_ | refine inBlock_normal ?_ | refine inBlock_ret ?_ | refine inBlock_here ?_ | refine inBlock_out rfl ?_ | refine LWp.seq ?_ | refine LWp.region ?_ | refine LWp.block ?_ | refine LWp.exit ?_ | refine LWp.ret ?_ | refine LWp.skip ?_ | refine LOps.valA ?_ | refine LOps.outA ?_ | refine LOps.whenA ?_ | refine LOps.pickA ?_ | refine LOps.storeA ?_)
  refine ⟨_, LRes.one rfl, _, rfl, ?_, hle.newBox hb' _, fun b hb => ?_⟩
  · rw [Nat.zero_add] at hc' ⊢
    exact SlAt.row b' c' l (zrow ti26 (c' - l.length)) ⟨box_new _ _ _, zrow_length _ _, hc'⟩
  · obtain rfl : b' = b := by simpa [blockOf] using hb
    exact hle.none hb'
end Go.Proofs.Ytjcpcgneghanfaa.LF
