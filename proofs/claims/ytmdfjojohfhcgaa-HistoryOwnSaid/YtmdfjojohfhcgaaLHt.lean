/- Histories: own and Events, whose rows may be written to. -/
import Derived.Test.YtmdfjojohfhcgaaLHs
set_option linter.unusedVariables false
set_option linter.unusedSimpArgs false
namespace Go.Proofs.Ytmdfjojohfhcgaa.LF
open Go.RowKit
set_option linter.unusedVariables false
attribute [local irreducible] andThen inBlock LWp LOps LCalls

theorem SlAt.off {α : Type} {f : α → List LV} {z : Nat} {S : LS} {X : LV} {l : List α} (h : SlAt f z S X l) {b : Nat} (hb : blockOf X ≠ some b) (cs : List LV) : SlAt f z (S.setBox b cs) X l := by
  cases h with
  | nil => exact .nil
  | row r c _ rest h => exact .row r c l rest ⟨(box_set_ne _ _ (fun e => hb (by rw [← e]; rfl))).trans h.box, h.room, h.cap⟩

set_option maxHeartbeats 4000000 in
theorem own_R {G : Ctx} (hP : G.P = Try.prog) (x : OpV) (hl : x.writes.length ≤ 1000000) (S : LS) :
    LCalls G 32 [.agg (opL x)] (fun R S' => ∃ Y, R = .agg (opR x Y) ∧ SlAt wrL 3 S' Y x.writes ∧ S.le S' ∧ ∀ b, blockOf Y = some b → S.box b = none) S := by
  have hD : TabOK G.P D := by rw [hP]; exact hD0
  refine LCalls.enter (fn := Try.f32) (by rw [hP]; exact Try.func32) rfl rfl ?_
  repeat (first | refine LOps.nil ?_ | refine andThen_normal ?_ | refine andThen_exit ?_ | refine andThen_ret ?_ | refine inBlock_normal ?_ | refine inBlock_ret ?_ | refine inBlock_here ?_ | refine inBlock_out rfl ?_ | refine LWp.seq ?_ | refine LWp.region ?_ | refine LWp.block ?_ | refine LWp.exit ?_ | refine LWp.ret ?_ | refine LWp.skip ?_)
  have hle := LS.le.refl S
  refine LOps.do (LDo.box rfl rfl) rfl rfl rfl ?_
  rintro _ _ ⟨b1, hb1, rfl, rfl⟩
  have s1 := hle.none hb1
  refine LOps.gen (fun S' => S.le S' ∧ S'.box b1 = some (opL x)) ⟨hle.newBox hb1 _, box_new _ _ _⟩ ?_
  clear hle hb1 
  rintro S1 ⟨hle, k1⟩
  skip
  refine LOps.do (LDo.alloc hD rfl rfl rfl) rfl rfl rfl ?_
  rintro _ _ ⟨b2, hb2, rfl, rfl⟩
  have n1_2 := fresh_ne hb2 k1
  have m2_1 := n1_2.symm
  have s2 := hle.none hb2
  refine LOps.gen (fun S' => S.le S' ∧ S'.box b1 = some (opL x) ∧ S'.box b2 = some (opR noOp (.sl .nil []))) ⟨hle.newBox hb2 _, (box_new_ne _ _ n1_2).trans k1, box_new _ _ _⟩ ?_
  clear hle hb2 k1
  rintro S2 ⟨hle, k1, k2⟩
  repeat (first | refine LOps.nil ?_ | refine andThen_normal ?_ | refine andThen_exit ?_ | refine andThen_ret ?_ | refine inBlock_normal ?_ | refine inBlock_ret ?_ | refine inBlock_here ?_ | refine inBlock_out rfl ?_ | refine LWp.seq ?_ | refine LWp.region ?_ | refine LWp.block ?_ | refine LWp.exit ?_ | refine LWp.ret ?_ | refine LWp.skip ?_)
  refine LOps.valG (LVal.fieldAddr hD rfl rfl rfl rfl rfl rfl (by decide)) rfl rfl rfl ?_
  refine LOps.valG (r := .one (.sl .sh (x.writes.map wrL))) (LVal.load hD rfl rfl k1 rfl rfl) rfl rfl rfl ?_
  refine LOps.do (LDo.callF (cloneSWr_L hP wrL_len1 x.writes _ hl) (by rw [hP]; exact Try.func39)) rfl rfl rfl ?_
  rintro _ S3 ⟨Y, rfl, hY, le3, hn⟩
  have hY1 : blockOf Y ≠ some b1 := fun e => by rw [hn b1 e] at k1; cases k1
  have hY2 : blockOf Y ≠ some b2 := fun e => by rw [hn b2 e] at k2; cases k2
  have n0 : ∀ b, blockOf Y = some b → S.box b = none := fun b hb => by
    cases hq : S.box b with
    | none => rfl
    | some cs =>
      have := hn b hb
      rw [hle.box _ _ hq] at this; cases this
  replace k1 := le3.box _ _ k1
  replace k2 := le3.box _ _ k2
  replace hle := hle.trans le3
  refine LOps.valG (LVal.fieldAddr hD rfl rfl rfl rfl rfl rfl (by decide)) rfl rfl rfl ?_
  refine LOps.do0 (LDo.store hD rfl rfl k1 rfl rfl rfl rfl) rfl rfl ?_
  rintro _ _ ⟨rfl, rfl⟩
  have j1 : (S3.setBox b1 (splice (opL x) (0 + 6) [Y])).box b1 = some (opR x Y) := (box_set _ _ _).trans rfl
  have j2 := (box_set_ne S3 (splice (opL x) (0 + 6) [Y]) m2_1).trans k2
  have hY := hY.off hY1 (splice (opL x) (0 + 6) [Y])
  have hle := hle.setBox s1 (splice (opL x) (0 + 6) [Y])
  generalize S3.setBox b1 (splice (opL x) (0 + 6) [Y]) = S4 at *
  repeat (first | refine LOps.nil ?_ | refine andThen_normal ?_ | refine andThen_exit ?_ | refine andThen_ret ?_ | refine inBlock_normal ?_ | refine inBlock_ret ?_ | refine inBlock_here ?_ | refine inBlock_out rfl ?_ | refine LWp.seq ?_ | refine LWp.region ?_ | refine LWp.block ?_ | refine LWp.exit ?_ | refine LWp.ret ?_ | refine LWp.skip ?_)
  refine LOps.valG (r := .agg (opR x Y)) (LVal.load hD rfl rfl j1 rfl rfl) rfl rfl rfl ?_
  refine LOps.do0 (LDo.store hD rfl rfl j2 rfl rfl rfl rfl) rfl rfl ?_
  rintro _ _ ⟨rfl, rfl⟩
  repeat (first | refine LOps.nil ?_ | refine andThen_normal ?_ | refine andThen_exit ?_ | refine andThen_ret ?_ | refine inBlock_normal ?_ | refine inBlock_ret ?_ | refine inBlock_here ?_ | refine inBlock_out rfl ?_ | refine LWp.seq ?_ | refine LWp.region ?_ | refine LWp.block ?_ | refine LWp.exit ?_ | refine LWp.ret ?_ | refine LWp.skip ?_)
  exact ⟨_, LRes.cell rfl (.cell rfl (box_set _ _ _) (hP ▸ tok29) rfl), Y, rfl, hY.off hY2 _, hle.setBox s2 _, n0⟩

set_option maxHeartbeats 8000000 in
theorem events_R {G : Ctx} (hP : G.P = Try.prog) (F : Nat → Prop) (b : Nat) (w : List Ev) (f : Int → Kn) (hw : w.length < 65536) (hws : ∀ e ∈ w, e.op.writes.length ≤ 1000000) (S : LS) (H : Hist S F b w f) :
    LCalls G 17 [.one (.v (.pointer (some ⟨b, 0, none⟩)))] (fun r S' => ∃ X, r = .one X ∧ S.le S' ∧ NewEv S S' X w.length) S := by
  have hD : TabOK G.P D := by rw [hP]; exact hD0
  obtain ⟨m, o, al, kb, hm, hown, hr, _⟩ := H.ex
  refine LCalls.enter (fn := Try.f17) (by rw [hP]; exact Try.func17) rfl rfl ?_
  repeat (first | refine LOps.nil ?_ | refine andThen_normal ?_ | refine andThen_exit ?_ | refine andThen_ret ?_ | refine inBlock_normal ?_ | refine inBlock_ret ?_ | refine inBlock_here ?_ | refine inBlock_out rfl ?_ | refine LWp.seq ?_ | refine LWp.region ?_ | refine LWp.block ?_ | refine LWp.exit ?_ | refine LWp.ret ?_ | refine LWp.skip ?_ | refine LOps.valA ?_ | refine LOps.outA ?_ | refine LOps.whenA ?_ | refine LOps.pickA ?_ | refine LOps.storeA ?_)
  refine LWp.condF rfl ?_
  repeat (first | refine LOps.nil ?_ | refine andThen_normal ?_ | refine andThen_exit ?_ | refine andThen_ret ?_ | refine inBlock_normal ?_ | refine inBlock_ret ?_ | refine inBlock_here ?_ | refine inBlock_out rfl ?_ | refine LWp.seq ?_ | refine LWp.region ?_ | refine LWp.block ?_ | refine LWp.exit ?_ | refine LWp.ret ?_ | refine LWp.skip ?_ | refine LOps.valA ?_ | refine LOps.outA ?_ | refine LOps.whenA ?_ | refine LOps.pickA ?_ | refine LOps.storeA ?_)
  refine LWp.loop (fun k T S' => ∃ (T' : Nat → TV) (j : Nat) (X : LV) (ps : List (Ev × LV)), j ≤ w.length ∧ k = w.length - j ∧ ps.length = j ∧ S.le S' ∧ PtAt evR 13 S' X ps ∧ (∀ c, blockOf X = some c → S.box c = none) ∧
      (∀ p ∈ ps, ∃ ws, ws.length ≤ 1000000 ∧ SlAt wrL 3 S' p.2 ws ∧ ∀ c, blockOf p.2 = some c → S.box c = none ∧ blockOf X ≠ some c) ∧ T = over T' [(3, .one X), (11, .one (.sl o (w.map evL))), (12, .one (iv w.length)), (13, .one (iv j))]) w.length ?_ ?_
  · exact ⟨_, 0, .sl .nil [], [], by omega, by omega, rfl, .refl _, .nil, (fun c hc => by cases hc), (fun p hp => by cases hp), holds.over ⟨rfl, rfl, by show TV.one (iv ((w.map evL).length : Int)) = _; rw [List.length_map], rfl, trivial⟩⟩
  rintro k T S' ⟨T', j, X, ps, hj, rfl, hps, hle, hX, hX0, hY, rfl⟩
  repeat (first | refine LOps.nil ?_ | refine andThen_normal ?_ | refine andThen_exit ?_ | refine andThen_ret ?_ | refine inBlock_normal ?_ | refine inBlock_ret ?_ | refine inBlock_here ?_ | refine inBlock_out rfl ?_ | refine LWp.seq ?_ | refine LWp.region ?_ | refine LWp.block ?_ | refine LWp.exit ?_ | refine LWp.ret ?_ | refine LWp.skip ?_ | refine LOps.valA ?_ | refine LOps.outA ?_ | refine LOps.whenA ?_ | refine LOps.pickA ?_ | refine LOps.storeA ?_)
  refine LWp.cond rfl (fun h => ?_) (fun h => ?_)
  · have hlt : j < w.length := by simpa using h
    have hown2 := hws _ (List.getElem_mem hlt)
    repeat (first | refine LOps.nil ?_ | refine andThen_normal ?_ | refine andThen_exit ?_ | refine andThen_ret ?_ | refine inBlock_normal ?_ | refine inBlock_ret ?_ | refine inBlock_here ?_ | refine inBlock_out rfl ?_ | refine LWp.seq ?_ | refine LWp.region ?_ | refine LWp.block ?_ | refine LWp.exit ?_ | refine LWp.ret ?_ | refine LWp.skip ?_ | refine LOps.valA ?_ | refine LOps.outA ?_ | refine LOps.whenA ?_ | refine LOps.pickA ?_ | refine LOps.storeA ?_)
    refine LOps.do (LDo.alloc hD rfl rfl rfl) rfl rfl rfl ?_
    rintro _ _ ⟨b5, hb5, rfl, rfl⟩
    have n5 : S.box b5 = none := hle.none hb5
    have hX5 : blockOf X ≠ some b5 := fun e => by
      obtain ⟨cs, hcs⟩ := hX.block b5 e
      rw [hb5.box] at hcs; cases hcs
    have hY5 : ∀ p ∈ ps, blockOf p.2 ≠ some b5 := fun p hp e => by
      obtain ⟨ws, _, hs, _⟩ := hY p hp
      obtain ⟨cs, hcs⟩ := hs.block b5 e
      rw [hb5.box] at hcs; cases hcs
    refine LOps.do0 (LDo.store hD rfl rfl (box_new _ _ _) rfl rfl rfl rfl) rfl rfl ?_
    rintro _ _ ⟨rfl, rfl⟩
    refine LOps.gen (fun S1 => S'.le S1 ∧ S1.box b5 = some (evL w[j])) ⟨((LS.le.refl S').newBox hb5 _).setBox hb5.box _, (box_set _ _ _).trans rfl⟩ ?_
    rintro S1 ⟨le1, k5⟩
    repeat (first | refine LOps.nil ?_ | refine andThen_normal ?_ | refine andThen_exit ?_ | refine andThen_ret ?_ | refine inBlock_normal ?_ | refine inBlock_ret ?_ | refine inBlock_here ?_ | refine inBlock_out rfl ?_ | refine LWp.seq ?_ | refine LWp.region ?_ | refine LWp.block ?_ | refine LWp.exit ?_ | refine LWp.ret ?_ | refine LWp.skip ?_)
    refine LOps.valG (LVal.fieldAddr hD rfl rfl rfl rfl rfl rfl (by decide)) rfl rfl rfl ?_
    refine LOps.valG (r := .agg (opL w[j].op)) (LVal.load hD rfl rfl k5 rfl rfl) rfl rfl rfl ?_
    refine LOps.do (LDo.callF (own_R hP w[j].op hown2 _) (by rw [hP]; exact Try.func32)) rfl rfl rfl ?_
    rintro _ S2 ⟨Y, rfl, hs, le2, hn⟩
    have le12 := le1.trans le2
    have hYb : blockOf Y ≠ some b5 := fun e => by rw [hn b5 e] at k5; cases k5
    replace k5 := le2.box _ _ k5
    refine LOps.valG (LVal.fieldAddr hD rfl rfl rfl rfl rfl rfl (by decide)) rfl rfl rfl ?_
    refine LOps.do0 (LDo.store hD rfl rfl k5 rfl rfl rfl rfl) rfl rfl ?_
    rintro _ _ ⟨rfl, rfl⟩
    have j5 : (S2.setBox b5 (splice (evL w[j]) (0 + 2) (opR w[j].op Y))).box b5 = some (evR (w[j], Y)) := (box_set _ _ _).trans rfl
    have hs := hs.off hYb (splice (evL w[j]) (0 + 2) (opR w[j].op Y))
    have le0 := (hle.trans le12).setBox n5 (splice (evL w[j]) (0 + 2) (opR w[j].op Y))
    have hXn : PtAt evR 13 (S2.setBox b5 (splice (evL w[j]) (0 + 2) (opR w[j].op Y))) X ps := hX.keep fun c cs h1 h2 => (box_set_ne _ _ (fun e => hX5 (by rw [← e]; exact h1))).trans (le12.box _ _ h2)
    have hYn : ∀ p ∈ ps, ∃ ws, ws.length ≤ 1000000 ∧ SlAt wrL 3 (S2.setBox b5 (splice (evL w[j]) (0 + 2) (opR w[j].op Y))) p.2 ws ∧ ∀ c, blockOf p.2 = some c → S.box c = none ∧ blockOf X ≠ some c := fun p hp => by
      obtain ⟨ws, hwl, h1, h2⟩ := hY p hp
      exact ⟨ws, hwl, (h1.le le12).off (hY5 p hp) _, h2⟩
    have hYX : ∀ c, blockOf Y = some c → S.box c = none ∧ blockOf X ≠ some c := fun c hc => by
      have h1 := hn c hc
      refine ⟨?_, fun e => ?_⟩
      · cases hq : S.box c with
        | none => rfl
        | some cs => rw [le1.box _ _ (hle.box _ _ hq)] at h1; cases h1
      · obtain ⟨cs, hcs⟩ := hX.block c e
        rw [le1.box _ _ hcs] at h1; cases h1
    clear hX hY hle
    generalize S2.setBox b5 (splice (evL w[j]) (0 + 2) (opR w[j].op Y)) = S3 at *
    repeat (first | refine LOps.nil ?_ | refine andThen_normal ?_ | refine andThen_exit ?_ | refine andThen_ret ?_ | refine inBlock_normal ?_ | refine inBlock_ret ?_ | refine inBlock_here ?_ | refine inBlock_out rfl ?_ | refine LWp.seq ?_ | refine LWp.region ?_ | refine LWp.block ?_ | refine LWp.exit ?_ | refine LWp.ret ?_ | refine LWp.skip ?_)
    refine LOps.valG (r := .one X) (LVal.to (LVal.move (.inl rfl)) rfl) rfl rfl rfl ?_
    refine LOps.valG (r := .agg (evR (w[j], Y))) (LVal.load hD rfl rfl j5 rfl rfl) rfl rfl rfl ?_
    refine LOps.valG (r := .one (.sl .sh [evR (w[j], Y)])) (LVal.buildSlice1 hD rfl rfl rfl rfl rfl rfl rfl rfl rfl rfl) rfl rfl rfl ?_
    refine LOps.do (LDo.pushPt (f := evR) (v := (w[j], Y)) hD evR_len rfl rfl rfl rfl rfl rfl rfl rfl rfl rfl rfl hXn (by omega)) rfl rfl rfl ?_
    rintro _ S4 ⟨X', rfl, hX', mv⟩
    refine LOps.valG (r := .one X') (LVal.to (LVal.move (.inr rfl)) rfl) rfl rfl rfl ?_
    repeat (first | refine LOps.nil ?_ | refine andThen_normal ?_ | refine andThen_exit ?_ | refine andThen_ret ?_ | refine inBlock_normal ?_ | refine inBlock_ret ?_ | refine inBlock_here ?_ | refine inBlock_out rfl ?_ | refine LWp.seq ?_ | refine LWp.region ?_ | refine LWp.block ?_ | refine LWp.exit ?_ | refine LWp.ret ?_ | refine LWp.skip ?_)
    refine LOps.valG (r := .one (iv ((j : Int) + 1))) (LVal.add64 rfl rfl rfl (by omega)) rfl rfl rfl ?_
    refine LOps.valG (r := .one (iv ((j + 1 : Nat) : Int))) (LVal.to (LVal.move (.inl rfl)) rfl) rfl rfl rfl ?_
    repeat (first | refine LOps.nil ?_ | refine andThen_normal ?_ | refine andThen_exit ?_ | refine andThen_ret ?_ | refine inBlock_normal ?_ | refine inBlock_ret ?_ | refine inBlock_here ?_ | refine inBlock_out rfl ?_ | refine LWp.seq ?_ | refine LWp.region ?_ | refine LWp.block ?_ | refine LWp.exit ?_ | refine LWp.ret ?_ | refine LWp.skip ?_)
    refine ⟨w.length - (j + 1), by omega, _, j + 1, X', ps ++ [(w[j], Y)], by omega, rfl, by simp [hps], ⟨fun c cs hc => (mv.box c cs (le0.box c cs hc) (fun e => by rw [hX0 c e] at hc; cases hc)).1, fun c x hc => mv.row c x (le0.row c x hc), fun c x hc => mv.obj c x (le0.obj c x hc), Nat.le_trans le0.top mv.top⟩, hX', fun c hc => ?_, fun p hp => ?_, holds.over ⟨rfl, rfl, rfl, rfl, trivial⟩⟩
    · cases hq : S.box c with
      | none => rfl
      | some cs => exact absurd hc (mv.box c cs (le0.box c cs hq) (fun e => by rw [hX0 c e] at hq; cases hq)).2
    · have step : ∀ (Z : LV) ws, ws.length ≤ 1000000 → SlAt wrL 3 S3 Z ws → (∀ c, blockOf Z = some c → S.box c = none ∧ blockOf X ≠ some c) → ∃ ws, ws.length ≤ 1000000 ∧ SlAt wrL 3 S4 Z ws ∧ ∀ c, blockOf Z = some c → S.box c = none ∧ blockOf X' ≠ some c := fun Z ws h0 h1 h2 =>
        ⟨ws, h0, h1.keep mv fun c hc => (h2 c hc).2, fun c hc => ⟨(h2 c hc).1, by
          obtain ⟨cs, hcs⟩ := h1.block c hc
          exact (mv.box c cs hcs (h2 c hc).2).2⟩⟩
      rcases List.mem_append.1 hp with hp | hp
      · obtain ⟨ws, h0, h1, h2⟩ := hYn p hp
        exact step _ _ h0 h1 h2
      · obtain rfl := List.mem_singleton.1 hp
        exact step _ _ hown2 hs hYX
  · have hge : w.length ≤ j := by simpa using h
    obtain rfl : j = w.length := by omega
    repeat (first | refine LOps.nil ?_ | refine andThen_normal ?_ | refine andThen_exit ?_ | refine andThen_ret ?_ | refine inBlock_normal ?_ | refine inBlock_ret ?_ | refine inBlock_here ?_ | refine inBlock_out rfl ?_ | refine LWp.seq ?_ | refine LWp.region ?_ | refine LWp.block ?_ | refine LWp.exit ?_ | refine LWp.ret ?_ | refine LWp.skip ?_ | refine LOps.valA ?_ | refine LOps.outA ?_ | refine LOps.whenA ?_ | refine LOps.pickA ?_ | refine LOps.storeA ?_)
    refine ⟨_, LRes.one rfl, X, rfl, hle, ?_⟩
    rw [← hps]
    exact NewEv.of hX hX0 hY
end Go.Proofs.Ytmdfjojohfhcgaa.LF
