/- The node: New, become, Set, Drop, of children of type int. (Printed by gen_art.py.) -/
import Derived.Test.YtinbibeapooghaaLAfI
set_option linter.unusedVariables false
set_option linter.unusedSimpArgs false
namespace Go.Proofs.Ytinbibeapooghaa.LF
open Go.RowKit
set_option linter.unusedVariables false
attribute [local irreducible] andThen inBlock LWp LOps LCalls

theorem zeroIxI : lzero ti84 = ixLI (List.replicate 256 0) (List.replicate 48 0) (List.replicate 48 false) := by kernel_rfl
theorem zeroDrI : lzero ti86 = drLI (List.replicate 256 0) (List.replicate 256 false) := by kernel_rfl
theorem okIxI : ti84.zero.cells.toList.all Value.oneCell' = true := by kernel_rfl
theorem okDrI : ti86.zero.cells.toList.all Value.oneCell' = true := by kernel_rfl
theorem soI_empty {S : LS} {bs : Nat} (h : S.box bs = some [.sl .nil [], .sl .nil []]) : SoI S bs (.sl .nil []) (.sl .nil []) [] := ⟨h, .nil, .nil, (fun e => by cases e), (fun e => by cases e), (fun r e => by cases e), .nil⟩

section
variable {S0 S S' : LS} {F F' : Nat → Prop}
theorem LS.le.mvFI (h : S0.le S) (k : MvF S F S' F') (hF : ∀ c, F c → S0.box c = Option.none) : S0.le S' :=
  ⟨fun c cs hc => (k.box c cs (h.box c cs hc) fun e => by have := hF c e; rw [hc] at this; cases this).1, fun c x hc => k.row c x (h.row c x hc), fun c x hc => k.obj c x (h.obj c x hc), Nat.le_trans h.top k.top⟩
theorem MvF.newI (h : S0.le S) (k : MvF S F S' F') (hF : ∀ c, F c → S0.box c = Option.none) : ∀ c, F' c → S0.box c = Option.none := fun c e => by
  cases hq : S0.box c with
  | none => rfl
  | some cs => exact absurd e (k.box c cs (h.box c cs hq) fun e => by have := hF c e; rw [hq] at this; cases this).2
end

set_option maxHeartbeats 2000000 in
theorem newI_L {G : Ctx} (hP : G.P = Try.prog) (S : LS) : LCalls G 9 [] (fun r S' => ∃ b F, r = ptr b ∧ S.le S' ∧ (∀ c, F c → S.box c = none) ∧ NodeI S' F b 4 []) S := by
  have hD : TabOK G.P D := by rw [hP]; exact hD0
  refine LCalls.enter (fn := Try.f9) (by rw [hP]; exact Try.func9) rfl rfl ?_
  repeat (first | refine LOps.val (r := .agg [.sl .nil [], .sl .nil []]) (LVal.to (LVal.build hD rfl rfl rfl rfl rfl rfl rfl) rfl) rfl rfl rfl ?_ | refine LOps.nil ?_ | refine andThen_normal ?_ | refine andThen_exit ?_ | refine andThen_ret ?_ | refine inBlock_normal ?_ | refine inBlock_ret ?_ | refine inBlock_here ?_ | refine inBlock_out rfl ?_ | refine LWp.seq ?_ | refine LWp.region ?_ | refine LWp.block ?_ | refine LWp.exit ?_ | refine LWp.ret ?_ | refine LWp.skip ?_ | refine LOps.valA ?_ | refine LOps.outA ?_ | refine LOps.whenA ?_ | refine LOps.pickA ?_ | refine LOps.storeA ?_)
  have hle := LS.le.refl S
  refine LOps.do (LDo.box rfl rfl) rfl rfl rfl ?_
  rintro _ _ ⟨b2, hb2, rfl, rfl⟩
  have s2 := hle.none hb2
  refine LOps.gen (fun S' => S.le S' ∧ S'.box b2 = some ([.sl .nil [], .sl .nil []])) ⟨hle.newBox hb2 _, box_new _ _ _⟩ ?_
  clear hle hb2 
  rintro S2 ⟨hle, k2⟩
  repeat (first | refine LOps.val (r := .one (ifc tSoI b2)) (LVal.makeIface hD rfl rfl rfl rfl) rfl rfl rfl ?_ | refine LOps.val (r := .agg [ifc tSoI b2, iv 4, iv 0]) (LVal.to (LVal.build hD rfl rfl rfl rfl rfl rfl rfl) rfl) rfl rfl rfl ?_ | refine LOps.nil ?_ | refine andThen_normal ?_ | refine andThen_exit ?_ | refine andThen_ret ?_ | refine inBlock_normal ?_ | refine inBlock_ret ?_ | refine inBlock_here ?_ | refine inBlock_out rfl ?_ | refine LWp.seq ?_ | refine LWp.region ?_ | refine LWp.block ?_ | refine LWp.exit ?_ | refine LWp.ret ?_ | refine LWp.skip ?_ | refine LOps.valA ?_ | refine LOps.outA ?_ | refine LOps.whenA ?_ | refine LOps.pickA ?_ | refine LOps.storeA ?_)
  skip
  refine LOps.do (LDo.box rfl rfl) rfl rfl rfl ?_
  rintro _ _ ⟨b5, hb5, rfl, rfl⟩
  have n2_5 := fresh_ne hb5 k2
  have m5_2 := n2_5.symm
  have s5 := hle.none hb5
  refine LOps.gen (fun S' => S.le S' ∧ S'.box b2 = some ([.sl .nil [], .sl .nil []]) ∧ S'.box b5 = some ([ifc tSoI b2, iv 4, iv 0])) ⟨hle.newBox hb5 _, (box_new_ne _ _ n2_5).trans k2, box_new _ _ _⟩ ?_
  clear hle hb5 k2
  rintro S5 ⟨hle, k2, k5⟩
  repeat (first | refine LOps.nil ?_ | refine andThen_normal ?_ | refine andThen_exit ?_ | refine andThen_ret ?_ | refine inBlock_normal ?_ | refine inBlock_ret ?_ | refine inBlock_here ?_ | refine inBlock_out rfl ?_ | refine LWp.seq ?_ | refine LWp.region ?_ | refine LWp.block ?_ | refine LWp.exit ?_ | refine LWp.ret ?_ | refine LWp.skip ?_ | refine LOps.valA ?_ | refine LOps.outA ?_ | refine LOps.whenA ?_ | refine LOps.pickA ?_ | refine LOps.storeA ?_)
  refine ⟨_, LRes.one rfl, b5, fun c => c = b5 ∨ FSb b2 (.sl .nil []) (.sl .nil []) c, rfl, hle, fun c hc => ?_, ⟨_, FSb b2 (.sl .nil []) (.sl .nil []), k5, .so b2 _ _ 4 [] (.inl rfl) (soI_empty k2), fun e => ?_, fun c => Iff.rfl⟩, .new⟩
  · rcases hc with rfl | rfl | hc | hc
    · exact s5
    · exact s2
    · cases hc
    · cases hc
  · rcases e with e | e | e
    · exact m5_2 e
    · cases e
    · cases e

set_option maxHeartbeats 8000000 in
set_option maxRecDepth 20000 in
theorem becomeI_L {G : Ctx} (hP : G.P = Try.prog) {S : LS} {F : Nat → Prop} {b k : Nat} {l : Kv Int} (h : NodeI S F b k l) {k' : Nat} (hk' : k' = 4 ∨ k' = 16 ∨ k' = 48 ∨ k' = 256) (hl : l.length ≤ k') :
    LCalls G 30 [ptr b, .one (iv (k' : Nat))] (fun r S' => ∃ F', NodeI S' F' b k' l ∧ MvF S F S' F') S := by
  have hD : TabOK G.P D := by rw [hP]; exact hD0
  obtain ⟨X, Fs, hb, hs, hnb, hF⟩ := h.ex
  have ks := hs.ks
  refine LCalls.enter (fn := Try.f30) (by rw [hP]; exact Try.func30) rfl rfl ?_
  repeat (first | refine LOps.nil ?_ | refine andThen_normal ?_ | refine andThen_exit ?_ | refine andThen_ret ?_ | refine inBlock_normal ?_ | refine inBlock_ret ?_ | refine inBlock_here ?_ | refine inBlock_out rfl ?_ | refine LWp.seq ?_ | refine LWp.region ?_ | refine LWp.block ?_ | refine LWp.exit ?_ | refine LWp.ret ?_ | refine LWp.skip ?_ | refine LOps.valA ?_ | refine LOps.outA ?_ | refine LOps.whenA ?_ | refine LOps.pickA ?_ | refine LOps.storeA ?_)
  have hle := LS.le.refl S
  refine LOps.do (LDo.alloc hD rfl rfl rfl) rfl rfl rfl ?_
  rintro _ _ ⟨b4, hb4, rfl, rfl⟩
  have s4 := hle.none hb4
  refine LOps.gen (fun S' => S.le S' ∧ S'.box b4 = some ([.v .nilIface])) ⟨hle.newBox hb4 _, box_new _ _ _⟩ ?_
  clear hle hb4 
  rintro S4 ⟨hle, k4⟩
  have hb1 := hle.box _ _ hb
  have n4 : b ≠ b4 := fun e => by rw [e] at hb; rw [s4] at hb; cases hb
  repeat (first | refine LWp.seq (LWp.cut 1 (fun T1 S1 => ∃ (T2 : Nat → TV) (X' : LV) (Fk : Nat → Prop), S.le S1 ∧ S1.box b4 = some [X'] ∧ ShI S1 Fk X' k' [] ∧ (∀ c, Fk c → S.box c = none ∧ c ≠ b4) ∧ T1 = over T2 [(0, ptr b), (1, .one (iv (k' : Nat))), (4, ptr b4)]) rfl ?_ ?_) | refine LOps.nil ?_ | refine andThen_normal ?_ | refine andThen_exit ?_ | refine andThen_ret ?_ | refine inBlock_normal ?_ | refine inBlock_ret ?_ | refine inBlock_here ?_ | refine inBlock_out rfl ?_ | refine LWp.seq ?_ | refine LWp.region ?_ | refine LWp.block ?_ | refine LWp.exit ?_ | refine LWp.ret ?_ | refine LWp.skip ?_ | refine LOps.valA ?_ | refine LOps.outA ?_ | refine LOps.whenA ?_ | refine LOps.pickA ?_ | refine LOps.storeA ?_)
  · rcases hk' with rfl | rfl | rfl | rfl
    · repeat (first | refine LWp.condF rfl ?_ | refine LOps.nil ?_ | refine andThen_normal ?_ | refine andThen_exit ?_ | refine andThen_ret ?_ | refine inBlock_normal ?_ | refine inBlock_ret ?_ | refine inBlock_here ?_ | refine inBlock_out rfl ?_ | refine LWp.seq ?_ | refine LWp.region ?_ | refine LWp.block ?_ | refine LWp.exit ?_ | refine LWp.ret ?_ | refine LWp.skip ?_ | refine LOps.valA ?_ | refine LOps.outA ?_ | refine LOps.whenA ?_ | refine LOps.pickA ?_ | refine LOps.storeA ?_)
      cases hs with
      | so bs A B _ _ hk hso =>
        repeat (first | refine LOps.valH (LVal.assertYes hD rfl rfl rfl rfl rfl rfl) ?_ | refine LWp.condT rfl ?_ | refine LOps.nil ?_ | refine andThen_normal ?_ | refine andThen_exit ?_ | refine andThen_ret ?_ | refine inBlock_normal ?_ | refine inBlock_ret ?_ | refine inBlock_here ?_ | refine inBlock_out rfl ?_ | refine LWp.seq ?_ | refine LWp.region ?_ | refine LWp.block ?_ | refine LWp.exit ?_ | refine LWp.ret ?_ | refine LWp.skip ?_ | refine LOps.valA ?_ | refine LOps.outA ?_ | refine LOps.whenA ?_ | refine LOps.pickA ?_ | refine LOps.storeA ?_)
        refine ⟨_, LRes.none rfl, F, ⟨⟨_, FSb bs A B, (box_set _ _ _).trans rfl, (ShI.so bs A B 4 l (.inl rfl) hso).keep fun c cs hc hcs => (box_set_ne _ _ fun e => hnb (by rw [← e]; exact hc)).trans (hle.box _ _ hcs), hnb, hF⟩, ⟨.inl rfl, hl, ks⟩⟩, (MvF.le hle fun c _ _ hn => hn).trans (.setBox ((hF b).2 (.inl rfl)) _ fun _ hc => hc)⟩
      | ix bs _ hix =>
        repeat (first | refine LOps.valH (LVal.assertNo hD rfl rfl rfl rfl rfl rfl) ?_ | refine LWp.condF rfl ?_ | refine LOps.val (r := .agg [.sl .nil [], .sl .nil []]) (LVal.to (LVal.build hD rfl rfl rfl rfl rfl rfl rfl) rfl) rfl rfl rfl ?_ | refine LOps.nil ?_ | refine andThen_normal ?_ | refine andThen_exit ?_ | refine andThen_ret ?_ | refine inBlock_normal ?_ | refine inBlock_ret ?_ | refine inBlock_here ?_ | refine inBlock_out rfl ?_ | refine LWp.seq ?_ | refine LWp.region ?_ | refine LWp.block ?_ | refine LWp.exit ?_ | refine LWp.ret ?_ | refine LWp.skip ?_ | refine LOps.valA ?_ | refine LOps.outA ?_ | refine LOps.whenA ?_ | refine LOps.pickA ?_ | refine LOps.storeA ?_)
        skip
        refine LOps.do (LDo.box rfl rfl) rfl rfl rfl ?_
        rintro _ _ ⟨b24, hb24, rfl, rfl⟩
        have n4_24 := fresh_ne hb24 k4
        have m24_4 := n4_24.symm
        have s24 := hle.none hb24
        refine LOps.gen (fun S' => S.le S' ∧ S'.box b4 = some ([.v .nilIface]) ∧ S'.box b24 = some ([.sl .nil [], .sl .nil []])) ⟨hle.newBox hb24 _, (box_new_ne _ _ n4_24).trans k4, box_new _ _ _⟩ ?_
        clear hle hb24 k4
        rintro S24 ⟨hle, k4, k24⟩
        repeat (first | refine LOps.valH (LVal.makeIface hD rfl rfl rfl rfl) ?_ | refine LOps.nil ?_ | refine andThen_normal ?_ | refine andThen_exit ?_ | refine andThen_ret ?_ | refine inBlock_normal ?_ | refine inBlock_ret ?_ | refine inBlock_here ?_ | refine inBlock_out rfl ?_ | refine LWp.seq ?_ | refine LWp.region ?_ | refine LWp.block ?_ | refine LWp.exit ?_ | refine LWp.ret ?_ | refine LWp.skip ?_ | refine LOps.valA ?_ | refine LOps.outA ?_ | refine LOps.whenA ?_ | refine LOps.pickA ?_ | refine LOps.storeA ?_)
        exact ⟨_, ifc tSoI b24, _, hle.setBox s4 _, (box_set _ _ _).trans rfl, .so b24 _ _ 4 [] (.inl rfl) (soI_empty ((box_set_ne _ _ m24_4).trans k24)), fun c hc => (by rcases hc with rfl | hc | hc; exact ⟨s24, m24_4⟩; cases hc; cases hc), holds.over ⟨rfl, rfl, rfl, trivial⟩⟩
      | dr bs _ hdr =>
        repeat (first | refine LOps.valH (LVal.assertNo hD rfl rfl rfl rfl rfl rfl) ?_ | refine LWp.condF rfl ?_ | refine LOps.val (r := .agg [.sl .nil [], .sl .nil []]) (LVal.to (LVal.build hD rfl rfl rfl rfl rfl rfl rfl) rfl) rfl rfl rfl ?_ | refine LOps.nil ?_ | refine andThen_normal ?_ | refine andThen_exit ?_ | refine andThen_ret ?_ | refine inBlock_normal ?_ | refine inBlock_ret ?_ | refine inBlock_here ?_ | refine inBlock_out rfl ?_ | refine LWp.seq ?_ | refine LWp.region ?_ | refine LWp.block ?_ | refine LWp.exit ?_ | refine LWp.ret ?_ | refine LWp.skip ?_ | refine LOps.valA ?_ | refine LOps.outA ?_ | refine LOps.whenA ?_ | refine LOps.pickA ?_ | refine LOps.storeA ?_)
        skip
        refine LOps.do (LDo.box rfl rfl) rfl rfl rfl ?_
        rintro _ _ ⟨b24, hb24, rfl, rfl⟩
        have n4_24 := fresh_ne hb24 k4
        have m24_4 := n4_24.symm
        have s24 := hle.none hb24
        refine LOps.gen (fun S' => S.le S' ∧ S'.box b4 = some ([.v .nilIface]) ∧ S'.box b24 = some ([.sl .nil [], .sl .nil []])) ⟨hle.newBox hb24 _, (box_new_ne _ _ n4_24).trans k4, box_new _ _ _⟩ ?_
        clear hle hb24 k4
        rintro S24 ⟨hle, k4, k24⟩
        repeat (first | refine LOps.valH (LVal.makeIface hD rfl rfl rfl rfl) ?_ | refine LOps.nil ?_ | refine andThen_normal ?_ | refine andThen_exit ?_ | refine andThen_ret ?_ | refine inBlock_normal ?_ | refine inBlock_ret ?_ | refine inBlock_here ?_ | refine inBlock_out rfl ?_ | refine LWp.seq ?_ | refine LWp.region ?_ | refine LWp.block ?_ | refine LWp.exit ?_ | refine LWp.ret ?_ | refine LWp.skip ?_ | refine LOps.valA ?_ | refine LOps.outA ?_ | refine LOps.whenA ?_ | refine LOps.pickA ?_ | refine LOps.storeA ?_)
        exact ⟨_, ifc tSoI b24, _, hle.setBox s4 _, (box_set _ _ _).trans rfl, .so b24 _ _ 4 [] (.inl rfl) (soI_empty ((box_set_ne _ _ m24_4).trans k24)), fun c hc => (by rcases hc with rfl | hc | hc; exact ⟨s24, m24_4⟩; cases hc; cases hc), holds.over ⟨rfl, rfl, rfl, trivial⟩⟩
    · repeat (first | refine LWp.condF rfl ?_ | refine LOps.nil ?_ | refine andThen_normal ?_ | refine andThen_exit ?_ | refine andThen_ret ?_ | refine inBlock_normal ?_ | refine inBlock_ret ?_ | refine inBlock_here ?_ | refine inBlock_out rfl ?_ | refine LWp.seq ?_ | refine LWp.region ?_ | refine LWp.block ?_ | refine LWp.exit ?_ | refine LWp.ret ?_ | refine LWp.skip ?_ | refine LOps.valA ?_ | refine LOps.outA ?_ | refine LOps.whenA ?_ | refine LOps.pickA ?_ | refine LOps.storeA ?_)
      cases hs with
      | so bs A B _ _ hk hso =>
        repeat (first | refine LOps.valH (LVal.assertYes hD rfl rfl rfl rfl rfl rfl) ?_ | refine LWp.condT rfl ?_ | refine LOps.nil ?_ | refine andThen_normal ?_ | refine andThen_exit ?_ | refine andThen_ret ?_ | refine inBlock_normal ?_ | refine inBlock_ret ?_ | refine inBlock_here ?_ | refine inBlock_out rfl ?_ | refine LWp.seq ?_ | refine LWp.region ?_ | refine LWp.block ?_ | refine LWp.exit ?_ | refine LWp.ret ?_ | refine LWp.skip ?_ | refine LOps.valA ?_ | refine LOps.outA ?_ | refine LOps.whenA ?_ | refine LOps.pickA ?_ | refine LOps.storeA ?_)
        refine ⟨_, LRes.none rfl, F, ⟨⟨_, FSb bs A B, (box_set _ _ _).trans rfl, (ShI.so bs A B 16 l (.inr rfl) hso).keep fun c cs hc hcs => (box_set_ne _ _ fun e => hnb (by rw [← e]; exact hc)).trans (hle.box _ _ hcs), hnb, hF⟩, ⟨.inr (.inl rfl), hl, ks⟩⟩, (MvF.le hle fun c _ _ hn => hn).trans (.setBox ((hF b).2 (.inl rfl)) _ fun _ hc => hc)⟩
      | ix bs _ hix =>
        repeat (first | refine LOps.valH (LVal.assertNo hD rfl rfl rfl rfl rfl rfl) ?_ | refine LWp.condF rfl ?_ | refine LOps.val (r := .agg [.sl .nil [], .sl .nil []]) (LVal.to (LVal.build hD rfl rfl rfl rfl rfl rfl rfl) rfl) rfl rfl rfl ?_ | refine LOps.nil ?_ | refine andThen_normal ?_ | refine andThen_exit ?_ | refine andThen_ret ?_ | refine inBlock_normal ?_ | refine inBlock_ret ?_ | refine inBlock_here ?_ | refine inBlock_out rfl ?_ | refine LWp.seq ?_ | refine LWp.region ?_ | refine LWp.block ?_ | refine LWp.exit ?_ | refine LWp.ret ?_ | refine LWp.skip ?_ | refine LOps.valA ?_ | refine LOps.outA ?_ | refine LOps.whenA ?_ | refine LOps.pickA ?_ | refine LOps.storeA ?_)
        skip
        refine LOps.do (LDo.box rfl rfl) rfl rfl rfl ?_
        rintro _ _ ⟨b24, hb24, rfl, rfl⟩
        have n4_24 := fresh_ne hb24 k4
        have m24_4 := n4_24.symm
        have s24 := hle.none hb24
        refine LOps.gen (fun S' => S.le S' ∧ S'.box b4 = some ([.v .nilIface]) ∧ S'.box b24 = some ([.sl .nil [], .sl .nil []])) ⟨hle.newBox hb24 _, (box_new_ne _ _ n4_24).trans k4, box_new _ _ _⟩ ?_
        clear hle hb24 k4
        rintro S24 ⟨hle, k4, k24⟩
        repeat (first | refine LOps.valH (LVal.makeIface hD rfl rfl rfl rfl) ?_ | refine LOps.nil ?_ | refine andThen_normal ?_ | refine andThen_exit ?_ | refine andThen_ret ?_ | refine inBlock_normal ?_ | refine inBlock_ret ?_ | refine inBlock_here ?_ | refine inBlock_out rfl ?_ | refine LWp.seq ?_ | refine LWp.region ?_ | refine LWp.block ?_ | refine LWp.exit ?_ | refine LWp.ret ?_ | refine LWp.skip ?_ | refine LOps.valA ?_ | refine LOps.outA ?_ | refine LOps.whenA ?_ | refine LOps.pickA ?_ | refine LOps.storeA ?_)
        exact ⟨_, ifc tSoI b24, _, hle.setBox s4 _, (box_set _ _ _).trans rfl, .so b24 _ _ 16 [] (.inr rfl) (soI_empty ((box_set_ne _ _ m24_4).trans k24)), fun c hc => (by rcases hc with rfl | hc | hc; exact ⟨s24, m24_4⟩; cases hc; cases hc), holds.over ⟨rfl, rfl, rfl, trivial⟩⟩
      | dr bs _ hdr =>
        repeat (first | refine LOps.valH (LVal.assertNo hD rfl rfl rfl rfl rfl rfl) ?_ | refine LWp.condF rfl ?_ | refine LOps.val (r := .agg [.sl .nil [], .sl .nil []]) (LVal.to (LVal.build hD rfl rfl rfl rfl rfl rfl rfl) rfl) rfl rfl rfl ?_ | refine LOps.nil ?_ | refine andThen_normal ?_ | refine andThen_exit ?_ | refine andThen_ret ?_ | refine inBlock_normal ?_ | refine inBlock_ret ?_ | refine inBlock_here ?_ | refine inBlock_out rfl ?_ | refine LWp.seq ?_ | refine LWp.region ?_ | refine LWp.block ?_ | refine LWp.exit ?_ | refine LWp.ret ?_ | refine LWp.skip ?_ | refine LOps.valA ?_ | refine LOps.outA ?_ | refine LOps.whenA ?_ | refine LOps.pickA ?_ | refine LOps.storeA ?_)
        skip
        refine LOps.do (LDo.box rfl rfl) rfl rfl rfl ?_
        rintro _ _ ⟨b24, hb24, rfl, rfl⟩
        have n4_24 := fresh_ne hb24 k4
        have m24_4 := n4_24.symm
        have s24 := hle.none hb24
        refine LOps.gen (fun S' => S.le S' ∧ S'.box b4 = some ([.v .nilIface]) ∧ S'.box b24 = some ([.sl .nil [], .sl .nil []])) ⟨hle.newBox hb24 _, (box_new_ne _ _ n4_24).trans k4, box_new _ _ _⟩ ?_
        clear hle hb24 k4
        rintro S24 ⟨hle, k4, k24⟩
        repeat (first | refine LOps.valH (LVal.makeIface hD rfl rfl rfl rfl) ?_ | refine LOps.nil ?_ | refine andThen_normal ?_ | refine andThen_exit ?_ | refine andThen_ret ?_ | refine inBlock_normal ?_ | refine inBlock_ret ?_ | refine inBlock_here ?_ | refine inBlock_out rfl ?_ | refine LWp.seq ?_ | refine LWp.region ?_ | refine LWp.block ?_ | refine LWp.exit ?_ | refine LWp.ret ?_ | refine LWp.skip ?_ | refine LOps.valA ?_ | refine LOps.outA ?_ | refine LOps.whenA ?_ | refine LOps.pickA ?_ | refine LOps.storeA ?_)
        exact ⟨_, ifc tSoI b24, _, hle.setBox s4 _, (box_set _ _ _).trans rfl, .so b24 _ _ 16 [] (.inr rfl) (soI_empty ((box_set_ne _ _ m24_4).trans k24)), fun c hc => (by rcases hc with rfl | hc | hc; exact ⟨s24, m24_4⟩; cases hc; cases hc), holds.over ⟨rfl, rfl, rfl, trivial⟩⟩
    · repeat (first | refine LWp.condT rfl ?_ | refine LOps.val (r := .agg (lzero ti84)) (LVal.build hD rfl rfl rfl rfl okIxI rfl rfl) rfl rfl rfl ?_ | refine LOps.nil ?_ | refine andThen_normal ?_ | refine andThen_exit ?_ | refine andThen_ret ?_ | refine inBlock_normal ?_ | refine inBlock_ret ?_ | refine inBlock_here ?_ | refine inBlock_out rfl ?_ | refine LWp.seq ?_ | refine LWp.region ?_ | refine LWp.block ?_ | refine LWp.exit ?_ | refine LWp.ret ?_ | refine LWp.skip ?_ | refine LOps.valA ?_ | refine LOps.outA ?_ | refine LOps.whenA ?_ | refine LOps.pickA ?_ | refine LOps.storeA ?_)
      skip
      refine LOps.do (LDo.box rfl rfl) rfl rfl rfl ?_
      rintro _ _ ⟨b29, hb29, rfl, rfl⟩
      have n4_29 := fresh_ne hb29 k4
      have m29_4 := n4_29.symm
      have s29 := hle.none hb29
      refine LOps.gen (fun S' => S.le S' ∧ S'.box b4 = some ([.v .nilIface]) ∧ S'.box b29 = some (lzero ti84)) ⟨hle.newBox hb29 _, (box_new_ne _ _ n4_29).trans k4, box_new _ _ _⟩ ?_
      clear hle hb29 k4
      rintro S29 ⟨hle, k4, k29⟩
      repeat (first | refine LOps.valH (LVal.makeIface hD rfl rfl rfl rfl) ?_ | refine LOps.nil ?_ | refine andThen_normal ?_ | refine andThen_exit ?_ | refine andThen_ret ?_ | refine inBlock_normal ?_ | refine inBlock_ret ?_ | refine inBlock_here ?_ | refine inBlock_out rfl ?_ | refine LWp.seq ?_ | refine LWp.region ?_ | refine LWp.block ?_ | refine LWp.exit ?_ | refine LWp.ret ?_ | refine LWp.skip ?_ | refine LOps.valA ?_ | refine LOps.outA ?_ | refine LOps.whenA ?_ | refine LOps.pickA ?_ | refine LOps.storeA ?_)
      rw [zeroIxI] at k29
      exact ⟨_, ifc tIxI b29, _, hle.setBox s4 _, (box_set _ _ _).trans rfl, .ix b29 [] ⟨_, _, _, (box_set_ne _ _ m29_4).trans k29, .empty 0⟩, fun c hc => (by obtain rfl : c = b29 := hc; exact ⟨s29, m29_4⟩), holds.over ⟨rfl, rfl, rfl, trivial⟩⟩
    · repeat (first | refine LWp.condF rfl ?_ | refine LOps.nil ?_ | refine andThen_normal ?_ | refine andThen_exit ?_ | refine andThen_ret ?_ | refine inBlock_normal ?_ | refine inBlock_ret ?_ | refine inBlock_here ?_ | refine inBlock_out rfl ?_ | refine LWp.seq ?_ | refine LWp.region ?_ | refine LWp.block ?_ | refine LWp.exit ?_ | refine LWp.ret ?_ | refine LWp.skip ?_ | refine LOps.valA ?_ | refine LOps.outA ?_ | refine LOps.whenA ?_ | refine LOps.pickA ?_ | refine LOps.storeA ?_)
      repeat (first | refine LWp.condT rfl ?_ | refine LOps.val (r := .agg (lzero ti86)) (LVal.build hD rfl rfl rfl rfl okDrI rfl rfl) rfl rfl rfl ?_ | refine LOps.nil ?_ | refine andThen_normal ?_ | refine andThen_exit ?_ | refine andThen_ret ?_ | refine inBlock_normal ?_ | refine inBlock_ret ?_ | refine inBlock_here ?_ | refine inBlock_out rfl ?_ | refine LWp.seq ?_ | refine LWp.region ?_ | refine LWp.block ?_ | refine LWp.exit ?_ | refine LWp.ret ?_ | refine LWp.skip ?_ | refine LOps.valA ?_ | refine LOps.outA ?_ | refine LOps.whenA ?_ | refine LOps.pickA ?_ | refine LOps.storeA ?_)
      skip
      refine LOps.do (LDo.box rfl rfl) rfl rfl rfl ?_
      rintro _ _ ⟨b34, hb34, rfl, rfl⟩
      have n4_34 := fresh_ne hb34 k4
      have m34_4 := n4_34.symm
      have s34 := hle.none hb34
      refine LOps.gen (fun S' => S.le S' ∧ S'.box b4 = some ([.v .nilIface]) ∧ S'.box b34 = some (lzero ti86)) ⟨hle.newBox hb34 _, (box_new_ne _ _ n4_34).trans k4, box_new _ _ _⟩ ?_
      clear hle hb34 k4
      rintro S34 ⟨hle, k4, k34⟩
      repeat (first | refine LOps.valH (LVal.makeIface hD rfl rfl rfl rfl) ?_ | refine LOps.nil ?_ | refine andThen_normal ?_ | refine andThen_exit ?_ | refine andThen_ret ?_ | refine inBlock_normal ?_ | refine inBlock_ret ?_ | refine inBlock_here ?_ | refine inBlock_out rfl ?_ | refine LWp.seq ?_ | refine LWp.region ?_ | refine LWp.block ?_ | refine LWp.exit ?_ | refine LWp.ret ?_ | refine LWp.skip ?_ | refine LOps.valA ?_ | refine LOps.outA ?_ | refine LOps.whenA ?_ | refine LOps.pickA ?_ | refine LOps.storeA ?_)
      rw [zeroDrI] at k34
      exact ⟨_, ifc tDrI b34, _, hle.setBox s4 _, (box_set _ _ _).trans rfl, .dr b34 [] ⟨_, _, (box_set_ne _ _ m34_4).trans k34, .empty 0⟩, fun c hc => (by obtain rfl : c = b34 := hc; exact ⟨s34, m34_4⟩), holds.over ⟨rfl, rfl, rfl, trivial⟩⟩
  clear k4 hb1 hle
  rintro T1 S1 ⟨T2, X', Fk, hle, k4, hsh, hFk, rfl⟩
  repeat (first | refine LOps.nil ?_ | refine andThen_normal ?_ | refine andThen_exit ?_ | refine andThen_ret ?_ | refine inBlock_normal ?_ | refine inBlock_ret ?_ | refine inBlock_here ?_ | refine inBlock_out rfl ?_ | refine LWp.seq ?_ | refine LWp.region ?_ | refine LWp.block ?_ | refine LWp.exit ?_ | refine LWp.ret ?_ | refine LWp.skip ?_ | refine LOps.valA ?_ | refine LOps.outA ?_ | refine LOps.whenA ?_ | refine LOps.pickA ?_ | refine LOps.storeA ?_)
  refine LOps.do (LDo.callX (allI_L hP (h.tells hP) (S := S1) (h.le hle)) (by rw [hP]; exact Try.func19)) rfl rfl rfl ?_
  rintro _ S2 ⟨p, q, rfl, le2, np, nq, htab⟩
  have hd : ∀ c, Fk c → S.box c = none ∧ c ≠ b4 ∧ c ≠ p ∧ c ≠ q := fun c hc => by
    obtain ⟨h1, h2⟩ := hFk c hc
    obtain ⟨cs, hcs⟩ := hsh.block hc
    exact ⟨h1, h2, (fun e => by rw [e, np] at hcs; cases hcs), (fun e => by rw [e, nq] at hcs; cases hcs)⟩
  replace hsh := hsh.keep (S' := S2) fun c cs _ hcs => le2.box _ _ hcs
  replace k4 := le2.box _ _ k4
  replace hle := hle.trans le2
  clear le2 np nq hFk
  repeat (first | refine LOps.nil ?_ | refine andThen_normal ?_ | refine andThen_exit ?_ | refine andThen_ret ?_ | refine inBlock_normal ?_ | refine inBlock_ret ?_ | refine inBlock_here ?_ | refine inBlock_out rfl ?_ | refine LWp.seq ?_ | refine LWp.region ?_ | refine LWp.block ?_ | refine LWp.exit ?_ | refine LWp.ret ?_ | refine LWp.skip ?_ | refine LOps.valA ?_ | refine LOps.outA ?_ | refine LOps.whenA ?_ | refine LOps.pickA ?_ | refine LOps.storeA ?_)
  refine LWp.rangeFuncK (xs := yieldsI l) (C := tabI p q l) rfl (by rw [hP]; exact Try.func32) rfl rfl rfl rfl (fun x hx => by
      obtain ⟨k, _, rfl⟩ := List.mem_map.1 hx; rfl) (fun G' e => allI_iter (e.trans hP) l ks.len p q)
    (fun k S' => S.le S' ∧ S'.box b4 = some [X'] ∧ tabI p q l S' ∧ ∃ Fk, ShI S' Fk X' k' (l.take k) ∧ ∀ c, Fk c → S.box c = none ∧ c ≠ b4 ∧ c ≠ p ∧ c ≠ q)
    (fun c k S' => False)
    (fun lp hlp k S2 S3 h hk => ⟨h.1.leO (hle.objNone hlp) hk, hk.box _ _ h.2.1, ⟨hk.box _ _ h.2.2.1.1, hk.box _ _ h.2.2.1.2⟩, by
      obtain ⟨Fk, h1, h2⟩ := h.2.2.2
      exact ⟨Fk, h1.keep fun c cs _ hcs => hk.box _ _ hcs, h2⟩⟩)
    (fun lp hlp c k S2 S3 h hk => h.elim) (fun k S h => h.2.2.1) ⟨hle, k4, htab, Fk, hsh, hd⟩ ?_ ?_ ?_
  · have hle0 := hle
    clear hle k4 htab hsh hd Fk
    rintro lp k x S3 o hlp hx ⟨hle, k4, htab, Fk, hsh, hd⟩ ho
    obtain ⟨hk, rfl⟩ : ∃ hk : k < l.length, x = [.one (uv (l[k].1 : Nat)), .one (iv l[k].2)] := by
      obtain ⟨p, hp, rfl⟩ := List.getElem?_map .. ▸ (show (l.map _)[k]? = some x from hx) |> Option.map_eq_some_iff.1
      obtain ⟨hk, rfl⟩ := List.getElem?_eq_some_iff.1 hp
      exact ⟨hk, rfl⟩
    repeat (first | refine LOps.nil ?_ | refine andThen_normal ?_ | refine andThen_exit ?_ | refine andThen_ret ?_ | refine inBlock_normal ?_ | refine inBlock_ret ?_ | refine inBlock_here ?_ | refine inBlock_out rfl ?_ | refine LWp.seq ?_ | refine LWp.region ?_ | refine LWp.block ?_ | refine LWp.exit ?_ | refine LWp.ret ?_ | refine LWp.skip ?_ | refine LOps.valA ?_ | refine LOps.outA ?_ | refine LOps.whenA ?_ | refine LOps.pickA ?_ | refine LOps.storeA ?_)
    refine ⟨rfl, ho, fun o' => ?_⟩
    refine LWp.gen (fun S' => S'.obj lp = some o' ∧ S.le S' ∧ S'.box b4 = some [X'] ∧ tabI p q l S' ∧ ShI S' Fk X' k' (l.take k)) ⟨setObj_obj _ _ _, hle.leO (hle0.objNone hlp) (.setObj _ _ _), k4, htab, hsh.keep fun c cs _ hcs => hcs⟩ ?_
    clear hle k4 htab hsh ho
    rintro S4 ⟨ho, hle, k4, htab, hsh⟩
    repeat (first | refine LOps.nil ?_ | refine andThen_normal ?_ | refine andThen_exit ?_ | refine andThen_ret ?_ | refine inBlock_normal ?_ | refine inBlock_ret ?_ | refine inBlock_here ?_ | refine inBlock_out rfl ?_ | refine LWp.seq ?_ | refine LWp.region ?_ | refine LWp.block ?_ | refine LWp.exit ?_ | refine LWp.ret ?_ | refine LWp.skip ?_ | refine LOps.valA ?_ | refine LOps.outA ?_ | refine LOps.whenA ?_ | refine LOps.pickA ?_ | refine LOps.storeA ?_)
    refine LOps.do (hsh.set (z := l[k].2) hP (ks.lt _ (List.getElem_mem hk)) (fun _ => by rw [List.length_take]; omega) rfl rfl rfl rfl) rfl rfl rfl ?_
    rintro _ S5 ⟨F5, h5, mv⟩
    rw [setL_take ks hk] at h5
    have hn4 := mv.box _ _ k4 fun e => (hd _ e).2.1 rfl
    have hnp := mv.box _ _ htab.1 fun e => (hd _ e).2.2.1 rfl
    have hnq := mv.box _ _ htab.2 fun e => (hd _ e).2.2.2 rfl
    repeat (first | refine LOps.nil ?_ | refine andThen_normal ?_ | refine andThen_exit ?_ | refine andThen_ret ?_ | refine inBlock_normal ?_ | refine inBlock_ret ?_ | refine inBlock_here ?_ | refine inBlock_out rfl ?_ | refine LWp.seq ?_ | refine LWp.region ?_ | refine LWp.block ?_ | refine LWp.exit ?_ | refine LWp.ret ?_ | refine LWp.skip ?_ | refine LOps.valA ?_ | refine LOps.outA ?_ | refine LOps.whenA ?_ | refine LOps.pickA ?_ | refine LOps.storeA ?_)
    exact ⟨mv.obj _ _ ho, hle.mvFI mv fun c hc => (hd c hc).1, hn4.1, ⟨hnp.1, hnq.1⟩, F5, h5, fun c hc => ⟨MvF.newI hle mv (fun c hc => (hd c hc).1) c hc, fun e => hn4.2 (e ▸ hc), fun e => hnp.2 (e ▸ hc), fun e => hnq.2 (e ▸ hc)⟩⟩
  · clear hle k4 htab hsh hd Fk
    rintro S3 ⟨hle, k4, htab, Fk, hsh, hd⟩
    rw [show (yieldsI l).length = l.length by simp [yieldsI], List.take_length] at hsh
    have hbS := hle.box _ _ hb
    repeat (first | refine LOps.nil ?_ | refine andThen_normal ?_ | refine andThen_exit ?_ | refine andThen_ret ?_ | refine inBlock_normal ?_ | refine inBlock_ret ?_ | refine inBlock_here ?_ | refine inBlock_out rfl ?_ | refine LWp.seq ?_ | refine LWp.region ?_ | refine LWp.block ?_ | refine LWp.exit ?_ | refine LWp.ret ?_ | refine LWp.skip ?_ | refine LOps.valA ?_ | refine LOps.outA ?_ | refine LOps.whenA ?_ | refine LOps.pickA ?_ | refine LOps.storeA ?_)
    have nFb : ¬ Fk b := fun e => by have := (hd b e).1; rw [hb] at this; cases this
    refine ⟨_, LRes.none rfl, fun c => c = b ∨ Fk c, ⟨⟨X', Fk, (box_set _ _ _).trans rfl, hsh.keep fun c cs hc hcs => (box_set_ne _ _ fun e => nFb (by rw [← e]; exact hc)).trans ((box_set_ne _ _ fun e => nFb (by rw [← e]; exact hc)).trans hcs), nFb, fun c => Iff.rfl⟩, ⟨hk', hl, ks⟩⟩, ?_⟩
    refine ⟨fun c cs hc hn => ?_, hle.row, hle.obj, hle.top⟩
    have hcb : c ≠ b := fun e => hn (by rw [e]; exact (hF b).2 (.inl rfl))
    refine ⟨(box_set_ne _ _ hcb).trans ((box_set_ne _ _ hcb).trans (hle.box _ _ hc)), fun e => ?_⟩
    rcases e with e | e
    · exact hcb e
    · have := (hd c e).1; rw [hc] at this; cases this
  · rintro c k S' _ h
    exact h.elim
end Go.Proofs.Ytinbibeapooghaa.LF
