/- The walk of the law 'OmapApart'. -/
import Derived.Test.YtndcdmmmfplbbaaLOn
set_option linter.unusedVariables false
set_option linter.unusedSimpArgs false
namespace Go.Proofs.Ytndcdmmmfplbbaa.LF
open Go.RowKit
set_option linter.unusedVariables false

theorem names_form (o : OpV) (k : ByteArray) (h : o.kind ≠ 6) : decide (o.key = k) = namesS o k := by simp [namesS, keysO, h]
theorem names_form6 (o : OpV) (k : ByteArray) (h : o.kind = 6) : (o.writes.any fun w => decide (w.key = k)) = namesS o k := by simp [namesS, keysO, h, List.any_map, Function.comp_def]

set_option maxHeartbeats 4000000 in
theorem names_F {G : Ctx} (hP : G.P = Try.prog) (o : OpV) (hw : o.writes.length ≤ 1000000) (k : ByteArray) : LFun G 23 [.agg (opL o), .one (sv k)] (.one (bv (namesS o k))) := LFun.of fun S => by
  have hD : TabOK G.P D := by rw [hP]; exact hD0
  have hml : (o.writes.map wrL).length = o.writes.length := List.length_map ..
  refine LCalls.enter (fn := Try.f23) (by rw [hP]; exact Try.func23) rfl rfl ?_
  repeat (first | refine LOps.nil ?_ | refine andThen_normal ?_ | refine andThen_exit ?_ | refine andThen_ret ?_ | refine inBlock_normal ?_ | refine inBlock_ret ?_ | refine inBlock_here ?_ | refine inBlock_out rfl ?_ | refine LWp.seq ?_ | refine LWp.region ?_ | refine LWp.block ?_ | refine LWp.exit ?_ | refine LWp.ret ?_ | refine LWp.skip ?_ | refine LOps.valA ?_ | refine LOps.outA ?_ | refine LOps.whenA ?_ | refine LOps.pickA ?_ | refine LOps.storeA ?_)
  have hle := LS.le.refl S
  refine LOps.do (LDo.box rfl rfl) rfl rfl rfl ?_
  rintro _ _ ⟨b2, hb2, rfl, rfl⟩
  have s2 := hle.none hb2
  refine LOps.gen (fun S' => S.le S' ∧ S'.box b2 = some (opL o)) ⟨hle.newBox hb2 _, box_new _ _ _⟩ ?_
  clear hle hb2 
  rintro S2 ⟨hle, k2⟩
  repeat (first | refine LOps.nil ?_ | refine andThen_normal ?_ | refine andThen_exit ?_ | refine andThen_ret ?_ | refine inBlock_normal ?_ | refine inBlock_ret ?_ | refine inBlock_here ?_ | refine inBlock_out rfl ?_ | refine LWp.seq ?_ | refine LWp.region ?_ | refine LWp.block ?_ | refine LWp.exit ?_ | refine LWp.ret ?_ | refine LWp.skip ?_ | refine LOps.valA ?_ | refine LOps.outA ?_ | refine LOps.whenA ?_ | refine LOps.pickA ?_ | refine LOps.storeA ?_)
  refine LWp.cond rfl (fun h => ?_) (fun h => ?_)
  · have h : (o.kind != 6) = true := h
    have h6 : o.kind ≠ 6 := by simpa using h
    repeat (first | refine LOps.nil ?_ | refine andThen_normal ?_ | refine andThen_exit ?_ | refine andThen_ret ?_ | refine inBlock_normal ?_ | refine inBlock_ret ?_ | refine inBlock_here ?_ | refine inBlock_out rfl ?_ | refine LWp.seq ?_ | refine LWp.region ?_ | refine LWp.block ?_ | refine LWp.exit ?_ | refine LWp.ret ?_ | refine LWp.skip ?_ | refine LOps.valA ?_ | refine LOps.outA ?_ | refine LOps.whenA ?_ | refine LOps.pickA ?_ | refine LOps.storeA ?_)
    exact ⟨_, LRes.one rfl, by rw [← names_form o k h6]; rfl, hle⟩
  have h : (o.kind != 6) = false := h
  have h6 : o.kind = 6 := by simpa using h
  clear h
  repeat (first | refine LOps.nil ?_ | refine andThen_normal ?_ | refine andThen_exit ?_ | refine andThen_ret ?_ | refine inBlock_normal ?_ | refine inBlock_ret ?_ | refine inBlock_here ?_ | refine inBlock_out rfl ?_ | refine LWp.seq ?_ | refine LWp.region ?_ | refine LWp.block ?_ | refine LWp.exit ?_ | refine LWp.ret ?_ | refine LWp.skip ?_ | refine LOps.valA ?_ | refine LOps.outA ?_ | refine LOps.whenA ?_ | refine LOps.pickA ?_ | refine LOps.storeA ?_)
  refine LWp.loop (fun m T S' => S' = S2 ∧ ∃ (T' : Nat → TV) (j : Nat), j ≤ o.writes.length ∧ m = o.writes.length - j ∧ (∀ (i : Nat) (hi : i < j) (h1 : i < o.writes.length), decide (o.writes[i].key = k) = false) ∧ T = over T' [(1, .one (sv k)), (2, ptr b2), (5, .one (iv (j : Nat)))]) o.writes.length ?_ ?_
  · exact ⟨rfl, _, 0, by omega, by omega, fun i hi => by omega, holds.over ⟨rfl, rfl, rfl, trivial⟩⟩
  rintro m T S' ⟨rfl, T', j, hj, rfl, hno, rfl⟩
  repeat (first | refine LOps.nil ?_ | refine andThen_normal ?_ | refine andThen_exit ?_ | refine andThen_ret ?_ | refine inBlock_normal ?_ | refine inBlock_ret ?_ | refine inBlock_here ?_ | refine inBlock_out rfl ?_ | refine LWp.seq ?_ | refine LWp.region ?_ | refine LWp.block ?_ | refine LWp.exit ?_ | refine LWp.ret ?_ | refine LWp.skip ?_ | refine LOps.valA ?_ | refine LOps.outA ?_ | refine LOps.whenA ?_ | refine LOps.pickA ?_ | refine LOps.storeA ?_)
  refine LWp.cond rfl (fun h => ?_) (fun h => ?_)
  · have hlt : j < o.writes.length := by simp at h; omega
    repeat (first | refine LOps.nil ?_ | refine andThen_normal ?_ | refine andThen_exit ?_ | refine andThen_ret ?_ | refine inBlock_normal ?_ | refine inBlock_ret ?_ | refine inBlock_here ?_ | refine inBlock_out rfl ?_ | refine LWp.seq ?_ | refine LWp.region ?_ | refine LWp.block ?_ | refine LWp.exit ?_ | refine LWp.ret ?_ | refine LWp.skip ?_ | refine LOps.valA ?_ | refine LOps.outA ?_ | refine LOps.whenA ?_ | refine LOps.pickA ?_ | refine LOps.storeA ?_)
    refine LWp.cond rfl (fun h2 => ?_) (fun h2 => ?_)
    · have h2 : decide (o.writes[j].key = k) = true := h2
      repeat (first | refine LOps.nil ?_ | refine andThen_normal ?_ | refine andThen_exit ?_ | refine andThen_ret ?_ | refine inBlock_normal ?_ | refine inBlock_ret ?_ | refine inBlock_here ?_ | refine inBlock_out rfl ?_ | refine LWp.seq ?_ | refine LWp.region ?_ | refine LWp.block ?_ | refine LWp.exit ?_ | refine LWp.ret ?_ | refine LWp.skip ?_ | refine LOps.valA ?_ | refine LOps.outA ?_ | refine LOps.whenA ?_ | refine LOps.pickA ?_ | refine LOps.storeA ?_)
      exact ⟨_, LRes.one rfl, by rw [← names_form6 o k h6, any_at hlt h2]; rfl, hle⟩
    · have h2 : decide (o.writes[j].key = k) = false := h2
      repeat (first | refine LOps.nil ?_ | refine andThen_normal ?_ | refine andThen_exit ?_ | refine andThen_ret ?_ | refine inBlock_normal ?_ | refine inBlock_ret ?_ | refine inBlock_here ?_ | refine inBlock_out rfl ?_ | refine LWp.seq ?_ | refine LWp.region ?_ | refine LWp.block ?_ | refine LWp.exit ?_ | refine LWp.ret ?_ | refine LWp.skip ?_ | refine LOps.valA ?_ | refine LOps.outA ?_ | refine LOps.whenA ?_ | refine LOps.pickA ?_ | refine LOps.storeA ?_)
      refine ⟨o.writes.length - (j + 1), by omega, rfl, _, j + 1, by omega, rfl, fun i hi h1 => ?_, holds.over ⟨rfl, rfl, rfl, trivial⟩⟩
      rcases Nat.lt_or_ge i j with h3 | h3
      · exact hno i h3 h1
      · obtain rfl : i = j := by omega
        exact h2
  · have hge : j = o.writes.length := by simp at h; omega
    subst hge
    repeat (first | refine LOps.nil ?_ | refine andThen_normal ?_ | refine andThen_exit ?_ | refine andThen_ret ?_ | refine inBlock_normal ?_ | refine inBlock_ret ?_ | refine inBlock_here ?_ | refine inBlock_out rfl ?_ | refine LWp.seq ?_ | refine LWp.region ?_ | refine LWp.block ?_ | refine LWp.exit ?_ | refine LWp.ret ?_ | refine LWp.skip ?_ | refine LOps.valA ?_ | refine LOps.outA ?_ | refine LOps.whenA ?_ | refine LOps.pickA ?_ | refine LOps.storeA ?_)
    exact ⟨_, LRes.one rfl, by rw [← names_form6 o k h6, any_of fun i hi => hno i hi hi]; rfl, hle⟩

def sharesS (x y : OpV) : Bool := (keysO x).any fun k => namesS y k
theorem shares_no {x y : OpV} (h : sharesS x y = false) : ∀ k, k ∈ keysO x → k ∉ keysO y := fun k hx hy => by
  have : sharesS x y = true := List.any_eq_true.2 ⟨k, hx, (namesS_iff y k).2 hy⟩
  rw [h] at this; cases this
theorem shares_form6 (x y : OpV) (h : x.kind = 6) : (x.writes.any fun w => namesS y w.key) = sharesS x y := by simp [sharesS, keysO, h, List.any_map, Function.comp_def]
theorem shares_form (x y : OpV) (h : x.kind ≠ 6) : namesS y x.key = sharesS x y := by simp [sharesS, keysO, h]
set_option maxHeartbeats 4000000 in
theorem shares_F {G : Ctx} (hP : G.P = Try.prog) (x y : OpV) (hx : x.writes.length ≤ 1000000) (hy : y.writes.length ≤ 1000000) : LFun G 24 [.agg (opL x), .agg (opL y)] (.one (bv (sharesS x y))) := LFun.of fun S => by
  have hD : TabOK G.P D := by rw [hP]; exact hD0
  have hml : (x.writes.map wrL).length = x.writes.length := List.length_map ..
  refine LCalls.enter (fn := Try.f24) (by rw [hP]; exact Try.func24) rfl rfl ?_
  repeat (first | refine LOps.nil ?_ | refine andThen_normal ?_ | refine andThen_exit ?_ | refine andThen_ret ?_ | refine inBlock_normal ?_ | refine inBlock_ret ?_ | refine inBlock_here ?_ | refine inBlock_out rfl ?_ | refine LWp.seq ?_ | refine LWp.region ?_ | refine LWp.block ?_ | refine LWp.exit ?_ | refine LWp.ret ?_ | refine LWp.skip ?_ | refine LOps.valA ?_ | refine LOps.outA ?_ | refine LOps.whenA ?_ | refine LOps.pickA ?_ | refine LOps.storeA ?_)
  have hle := LS.le.refl S
  refine LOps.do (LDo.box rfl rfl) rfl rfl rfl ?_
  rintro _ _ ⟨b2, hb2, rfl, rfl⟩
  have s2 := hle.none hb2
  refine LOps.gen (fun S' => S.le S' ∧ S'.box b2 = some (opL x)) ⟨hle.newBox hb2 _, box_new _ _ _⟩ ?_
  clear hle hb2 
  rintro S2 ⟨hle, k2⟩
  skip
  refine LOps.do (LDo.box rfl rfl) rfl rfl rfl ?_
  rintro _ _ ⟨b3, hb3, rfl, rfl⟩
  have n2_3 := fresh_ne hb3 k2
  have m3_2 := n2_3.symm
  have s3 := hle.none hb3
  refine LOps.gen (fun S' => S.le S' ∧ S'.box b2 = some (opL x) ∧ S'.box b3 = some (opL y)) ⟨hle.newBox hb3 _, (box_new_ne _ _ n2_3).trans k2, box_new _ _ _⟩ ?_
  clear hle hb3 k2
  rintro S3 ⟨hle, k2, k3⟩
  repeat (first | refine LOps.nil ?_ | refine andThen_normal ?_ | refine andThen_exit ?_ | refine andThen_ret ?_ | refine inBlock_normal ?_ | refine inBlock_ret ?_ | refine inBlock_here ?_ | refine inBlock_out rfl ?_ | refine LWp.seq ?_ | refine LWp.region ?_ | refine LWp.block ?_ | refine LWp.exit ?_ | refine LWp.ret ?_ | refine LWp.skip ?_ | refine LOps.valA ?_ | refine LOps.outA ?_ | refine LOps.whenA ?_ | refine LOps.pickA ?_ | refine LOps.storeA ?_)
  refine LWp.cond rfl (fun h => ?_) (fun h => ?_)
  · have h : (x.kind != 6) = true := h
    have h6 : x.kind ≠ 6 := by simpa using h
    repeat (first | refine LOps.valH (LVal.load hD rfl rfl k3 rfl rfl) ?_ | refine LOps.nil ?_ | refine andThen_normal ?_ | refine andThen_exit ?_ | refine andThen_ret ?_ | refine inBlock_normal ?_ | refine inBlock_ret ?_ | refine inBlock_here ?_ | refine inBlock_out rfl ?_ | refine LWp.seq ?_ | refine LWp.region ?_ | refine LWp.block ?_ | refine LWp.exit ?_ | refine LWp.ret ?_ | refine LWp.skip ?_ | refine LOps.val (LVal.call rfl rfl (by rw [hP]; exact Try.func23) rfl (by decide) (names_F hP y hy x.key)) rfl rfl rfl ?_ | refine LOps.whenC (LVal.call rfl rfl (by rw [hP]; exact Try.func23) rfl (by decide) (names_F hP y hy x.key)) ?_ | refine LOps.valA ?_ | refine LOps.outA ?_ | refine LOps.whenA ?_ | refine LOps.pickA ?_ | refine LOps.storeA ?_)
    exact ⟨_, LRes.one rfl, by rw [← shares_form x y h6]; rfl, hle⟩
  have h : (x.kind != 6) = false := h
  have h6 : x.kind = 6 := by simpa using h
  clear h
  repeat (first | refine LOps.nil ?_ | refine andThen_normal ?_ | refine andThen_exit ?_ | refine andThen_ret ?_ | refine inBlock_normal ?_ | refine inBlock_ret ?_ | refine inBlock_here ?_ | refine inBlock_out rfl ?_ | refine LWp.seq ?_ | refine LWp.region ?_ | refine LWp.block ?_ | refine LWp.exit ?_ | refine LWp.ret ?_ | refine LWp.skip ?_ | refine LOps.valA ?_ | refine LOps.outA ?_ | refine LOps.whenA ?_ | refine LOps.pickA ?_ | refine LOps.storeA ?_)
  refine LWp.loop (fun m T S' => S' = S3 ∧ ∃ (T' : Nat → TV) (j : Nat), j ≤ x.writes.length ∧ m = x.writes.length - j ∧ (∀ (i : Nat) (hi : i < j) (h1 : i < x.writes.length), namesS y x.writes[i].key = false) ∧ T = over T' [(2, ptr b2), (3, ptr b3), (5, .one (iv (j : Nat)))]) x.writes.length ?_ ?_
  · exact ⟨rfl, _, 0, by omega, by omega, fun i hi => by omega, holds.over ⟨rfl, rfl, rfl, trivial⟩⟩
  rintro m T S' ⟨rfl, T', j, hj, rfl, hno, rfl⟩
  repeat (first | refine LOps.nil ?_ | refine andThen_normal ?_ | refine andThen_exit ?_ | refine andThen_ret ?_ | refine inBlock_normal ?_ | refine inBlock_ret ?_ | refine inBlock_here ?_ | refine inBlock_out rfl ?_ | refine LWp.seq ?_ | refine LWp.region ?_ | refine LWp.block ?_ | refine LWp.exit ?_ | refine LWp.ret ?_ | refine LWp.skip ?_ | refine LOps.valA ?_ | refine LOps.outA ?_ | refine LOps.whenA ?_ | refine LOps.pickA ?_ | refine LOps.storeA ?_)
  refine LWp.cond rfl (fun h => ?_) (fun h => ?_)
  · have hlt : j < x.writes.length := by simp at h; omega
    have cn := names_F hP y hy x.writes[j].key
    repeat (first | refine LOps.nil ?_ | refine andThen_normal ?_ | refine andThen_exit ?_ | refine andThen_ret ?_ | refine inBlock_normal ?_ | refine inBlock_ret ?_ | refine inBlock_here ?_ | refine inBlock_out rfl ?_ | refine LWp.seq ?_ | refine LWp.region ?_ | refine LWp.block ?_ | refine LWp.exit ?_ | refine LWp.ret ?_ | refine LWp.skip ?_ | refine LOps.valA ?_ | refine LOps.outA ?_ | refine LOps.whenA ?_ | refine LOps.pickA ?_ | refine LOps.storeA ?_)
    refine LWp.drawL [0, 1, 2, 3, 4, 5, 6, 7] (by rw [hP]; rfl) rfl ?_
    repeat (first | refine LRl.valH (LVal.load hD rfl rfl k3 rfl rfl) ?_ (fun _ hS => LVal.load hD rfl rfl (hS.box _ _ k3 (by first | exact id | (intro hx; rcases hx with hx | hx <;> omega) | (intro hx; have hx2 : _ = _ := hx; omega) | (intro hx; exact absurd hx.1 (by decide)))) rfl rfl) | refine LRl.valC (fun _ => (LVal.call rfl rfl (by rw [hP]; exact Try.func23) rfl (by decide) (cn))) ?_ | refine LRl.whenC (fun _ => (LVal.call rfl rfl (by rw [hP]; exact Try.func23) rfl (by decide) (cn))) ?_ | refine LRl.nil ?_ | refine LRl.valA ?_ | refine LRl.outA ?_ | refine LRl.whenA ?_ | refine LRl.pickA ?_)
    repeat (first | refine LOps.nil ?_ | refine andThen_normal ?_ | refine andThen_exit ?_ | refine andThen_ret ?_ | refine inBlock_normal ?_ | refine inBlock_ret ?_ | refine inBlock_here ?_ | refine inBlock_out rfl ?_ | refine LWp.seq ?_ | refine LWp.region ?_ | refine LWp.block ?_ | refine LWp.exit ?_ | refine LWp.ret ?_ | refine LWp.skip ?_ | refine LOps.valA ?_ | refine LOps.outA ?_ | refine LOps.whenA ?_ | refine LOps.pickA ?_ | refine LOps.storeA ?_)
    refine LWp.cond rfl (fun h2 => ?_) (fun h2 => ?_)
    · have h2 : namesS y x.writes[j].key = true := h2
      repeat (first | refine LOps.nil ?_ | refine andThen_normal ?_ | refine andThen_exit ?_ | refine andThen_ret ?_ | refine inBlock_normal ?_ | refine inBlock_ret ?_ | refine inBlock_here ?_ | refine inBlock_out rfl ?_ | refine LWp.seq ?_ | refine LWp.region ?_ | refine LWp.block ?_ | refine LWp.exit ?_ | refine LWp.ret ?_ | refine LWp.skip ?_ | refine LOps.valA ?_ | refine LOps.outA ?_ | refine LOps.whenA ?_ | refine LOps.pickA ?_ | refine LOps.storeA ?_)
      exact ⟨_, LRes.one rfl, by rw [← shares_form6 x y h6, any_at (p := fun w => namesS y w.key) hlt h2]; rfl, hle⟩
    · have h2 : namesS y x.writes[j].key = false := h2
      repeat (first | refine LOps.nil ?_ | refine andThen_normal ?_ | refine andThen_exit ?_ | refine andThen_ret ?_ | refine inBlock_normal ?_ | refine inBlock_ret ?_ | refine inBlock_here ?_ | refine inBlock_out rfl ?_ | refine LWp.seq ?_ | refine LWp.region ?_ | refine LWp.block ?_ | refine LWp.exit ?_ | refine LWp.ret ?_ | refine LWp.skip ?_ | refine LOps.valA ?_ | refine LOps.outA ?_ | refine LOps.whenA ?_ | refine LOps.pickA ?_ | refine LOps.storeA ?_)
      refine ⟨x.writes.length - (j + 1), by omega, rfl, _, j + 1, by omega, rfl, fun i hi h1 => ?_, holds.over ⟨rfl, rfl, rfl, trivial⟩⟩
      rcases Nat.lt_or_ge i j with h3 | h3
      · exact hno i h3 h1
      · obtain rfl : i = j := by omega
        exact h2
  · have hge : j = x.writes.length := by simp at h; omega
    subst hge
    repeat (first | refine LOps.nil ?_ | refine andThen_normal ?_ | refine andThen_exit ?_ | refine andThen_ret ?_ | refine inBlock_normal ?_ | refine inBlock_ret ?_ | refine inBlock_here ?_ | refine inBlock_out rfl ?_ | refine LWp.seq ?_ | refine LWp.region ?_ | refine LWp.block ?_ | refine LWp.exit ?_ | refine LWp.ret ?_ | refine LWp.skip ?_ | refine LOps.valA ?_ | refine LOps.outA ?_ | refine LOps.whenA ?_ | refine LOps.pickA ?_ | refine LOps.storeA ?_)
    exact ⟨_, LRes.one rfl, by rw [← shares_form6 x y h6, any_of (p := fun w => namesS y w.key) fun i hi => hno i hi hi]; rfl, hle⟩
end Go.Proofs.Ytndcdmmmfplbbaa.LF
