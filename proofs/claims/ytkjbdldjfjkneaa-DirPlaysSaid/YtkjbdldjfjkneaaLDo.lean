/- The directory's law: alike. -/
import Derived.Test.YtkjbdldjfjkneaaLDn
import Derived.Test.YtkjbdldjfjkneaaLDe
set_option linter.unusedVariables false
set_option linter.unusedSimpArgs false
namespace Go.Proofs.Ytkjbdldjfjkneaa.LF
open Go.RowKit
set_option linter.unusedVariables false

/-- What alike has in memory. -/
structure AK (S0 : LS) (d : Dv Int) (b2 b3 b4 b5 : Nat) (k : Int) (S : LS) : Prop where
  le : S0.leB S
  k2 : S.box b2 = some [.p (dLI d)]
  k3 : S.box b3 = some (dLI d)
  k4 : S.box b4 = some [bv false]
  k5 : S.box b5 = some [iv k]
theorem AK.leB {S0 S S' : LS} {d : Dv Int} {b2 b3 b4 b5 : Nat} {k : Int} (h : AK S0 d b2 b3 b4 b5 k S) (hle : S.leB S') : AK S0 d b2 b3 b4 b5 k S' :=
  ⟨h.le.trans hle, hle.box _ _ h.k2, hle.box _ _ h.k3, hle.box _ _ h.k4, hle.box _ _ h.k5⟩
theorem AK.new {S0 S : LS} {d : Dv Int} {b2 b3 b4 b5 : Nat} {k : Int} (h : AK S0 d b2 b3 b4 b5 k S) {b : Nat} (hb : S.fresh b) (cs : List LV) : AK S0 d b2 b3 b4 b5 k (S.newBox b cs) :=
  h.leB (.of_le ((LS.le.refl S).newBox hb cs))
theorem AK.set {S0 S : LS} {d : Dv Int} {b2 b3 b4 b5 : Nat} {k : Int} (h : AK S0 d b2 b3 b4 b5 k S) (s5 : S0.box b5 = none) (n2 : b2 ≠ b5) (n3 : b3 ≠ b5) (n4 : b4 ≠ b5) (j : Int) : AK S0 d b2 b3 b4 b5 j (S.setBox b5 [iv j]) :=
  ⟨h.le.setBox s5 _, (box_set_ne _ _ n2).trans h.k2, (box_set_ne _ _ n3).trans h.k3, (box_set_ne _ _ n4).trans h.k4, box_set _ _ _⟩

theorem atD_end (d : Dv Int) : atDI (some d) ((d.los.length : Nat) : Int) = (noBytes, 0, false) := by simp only [atDI]; rw [if_neg (by omega)]
theorem atD_neg (d : Dv Int) : atDI (some d) (-1) = (noBytes, 0, false) := by simp only [atDI]; rw [if_neg (by omega)]
theorem hiD_end (d : Dv Int) : hiDI (some d) ((d.los.length : Nat) : Int) = (noBytes, false) := by simp only [hiDI]; rw [if_neg (by omega)]
theorem hiD_neg (d : Dv Int) : hiDI (some d) (-1) = (noBytes, false) := by simp only [hiDI]; rw [if_neg (by omega)]

set_option maxHeartbeats 16000000 in
set_option maxRecDepth 10000 in
theorem alike_L {G : Ctx} (hP : G.P = Try.prog) (d : Dv Int) (hok : Okd d) (S : LS) :
    LCalls G 28 [dTI (some d), .agg (dLI d)] (fun r S' => r = .one (bv true) ∧ S.leB S') S := by
  have hD : TabOK G.P D := by rw [hP]; exact hD0
  have hd := hok.wf
  have hsm := hd.small
  have hfew := hok.few
  have hml : (d.los.map sL).length = d.los.length := List.length_map ..
  have hmx : (d.xs.map iL).length = d.los.length := by rw [List.length_map, hd.len]
  have hln : LFun G 14 [dTI (some d)] (.one (iv (d.los.length : Nat))) := lenI_F hP (some d)
  refine LCalls.enter (fn := Try.f28) (by rw [hP]; exact Try.func28) rfl rfl ?_
  repeat (first | refine LOps.nil ?_ | refine andThen_normal ?_ | refine andThen_exit ?_ | refine andThen_ret ?_ | refine inBlock_normal ?_ | refine inBlock_ret ?_ | refine inBlock_here ?_ | refine inBlock_out rfl ?_ | refine LWp.seq ?_ | refine LWp.region ?_ | refine LWp.block ?_ | refine LWp.exit ?_ | refine LWp.ret ?_ | refine LWp.skip ?_ | refine LOps.valA ?_ | refine LOps.outA ?_ | refine LOps.whenA ?_ | refine LOps.pickA ?_ | refine LOps.storeA ?_)
  refine LOps.do (LDo.box rfl rfl) rfl rfl rfl ?_
  rintro _ _ ⟨b2, hb2, rfl, rfl⟩
  have hle := LS.leB.of_le ((LS.le.refl S).newBox hb2 [.p (dLI d)])
  have k2 := box_new S b2 [.p (dLI d)]
  generalize S.newBox b2 [.p (dLI d)] = S1 at hle k2
  repeat (first | refine LOps.nil ?_ | refine andThen_normal ?_ | refine andThen_exit ?_ | refine andThen_ret ?_ | refine inBlock_normal ?_ | refine inBlock_ret ?_ | refine inBlock_here ?_ | refine inBlock_out rfl ?_ | refine LWp.seq ?_ | refine LWp.region ?_ | refine LWp.block ?_ | refine LWp.exit ?_ | refine LWp.ret ?_ | refine LWp.skip ?_ | refine LOps.valA ?_ | refine LOps.outA ?_ | refine LOps.whenA ?_ | refine LOps.pickA ?_ | refine LOps.storeA ?_)
  refine LOps.do (LDo.box rfl rfl) rfl rfl rfl ?_
  rintro _ _ ⟨b3, hb3, rfl, rfl⟩
  have n23 := fresh_ne hb3 k2
  have hle := hle.trans (.of_le ((LS.le.refl S1).newBox hb3 (dLI d)))
  have k2 := (box_new_ne _ (dLI d) n23).trans k2
  have k3 := box_new S1 b3 (dLI d)
  generalize S1.newBox b3 (dLI d) = S2 at hle k2 k3
  repeat (first | refine LOps.nil ?_ | refine andThen_normal ?_ | refine andThen_exit ?_ | refine andThen_ret ?_ | refine inBlock_normal ?_ | refine inBlock_ret ?_ | refine inBlock_here ?_ | refine inBlock_out rfl ?_ | refine LWp.seq ?_ | refine LWp.region ?_ | refine LWp.block ?_ | refine LWp.exit ?_ | refine LWp.ret ?_ | refine LWp.skip ?_ | refine LOps.valA ?_ | refine LOps.outA ?_ | refine LOps.whenA ?_ | refine LOps.pickA ?_ | refine LOps.storeA ?_)
  refine LOps.do (LDo.alloc hD rfl rfl rfl) rfl rfl rfl ?_
  rintro _ _ ⟨b4, hb4, rfl, rfl⟩
  have n24 := fresh_ne hb4 k2
  have n34 := fresh_ne hb4 k3
  have s4 := hle.none hb4
  have hle := hle.trans (.of_le ((LS.le.refl S2).newBox hb4 [bv false]))
  have k2 := (box_new_ne _ [bv false] n24).trans k2
  have k3 := (box_new_ne _ [bv false] n34).trans k3
  have k4 := box_new S2 b4 [bv false]
  refine LOps.gen (fun S' => S.leB S' ∧ S'.box b2 = some [.p (dLI d)] ∧ S'.box b3 = some (dLI d) ∧ S'.box b4 = some [bv false]) ⟨hle, k2, k3, k4⟩ ?_
  clear hb2 hb3 hb4 hle k2 k3 k4
  rintro S1 ⟨hle, k2, k3, k4⟩
  repeat (first | refine LOps.nil ?_ | refine andThen_normal ?_ | refine andThen_exit ?_ | refine andThen_ret ?_ | refine inBlock_normal ?_ | refine inBlock_ret ?_ | refine inBlock_here ?_ | refine inBlock_out rfl ?_ | refine LWp.seq ?_ | refine LWp.region ?_ | refine LWp.block ?_ | refine LWp.exit ?_ | refine LWp.ret ?_ | refine LWp.skip ?_ | refine LOps.valA ?_ | refine LOps.outA ?_ | refine LOps.whenA ?_ | refine LOps.pickA ?_ | refine LOps.storeA ?_)
  refine LWp.drawL [0, 1, 2, 3, 4, 5] (by rw [hP]; rfl) rfl ?_
  repeat (first | refine LRl.val (fun _ _ => (LVal.call rfl rfl (by rw [hP]; exact Try.func14) rfl (by decide) (hln))) rfl rfl rfl ?_ | refine LRl.val (fun _ _ => LVal.to (LVal.binOp hD rfl rfl rfl rfl) (r' := .one (.v (.bool true))) (congrArg (fun b => TV.one (.v (.bool b))) (by first | exact decide_eq_true (by omega) | (rw [beq_iff_eq]; omega) | (rw [bne_iff_ne]; omega)))) rfl rfl rfl ?_ | refine LRl.val (fun _ _ => LVal.to (LVal.binOp hD rfl rfl rfl rfl) (r' := .one (.v (.bool false))) (congrArg (fun b => TV.one (.v (.bool b))) (by first | exact decide_eq_false (by omega) | (rw [beq_eq_false_iff_ne]; omega) | (rw [bne_eq_false_iff_eq]; omega)))) rfl rfl rfl ?_ | refine LRl.valW ?_ | refine LRl.valC (fun _ => (LVal.call rfl rfl (by rw [hP]; exact Try.func14) rfl (by decide) (hln))) ?_ | refine LRl.whenC (fun _ => (LVal.call rfl rfl (by rw [hP]; exact Try.func14) rfl (by decide) (hln))) ?_ | refine LRl.nil ?_ | refine LRl.valA ?_ | refine LRl.outA ?_ | refine LRl.whenA ?_ | refine LRl.pickA ?_)
  repeat (first | refine LWp.condF rfl ?_ | refine LOps.nil ?_ | refine andThen_normal ?_ | refine andThen_exit ?_ | refine andThen_ret ?_ | refine inBlock_normal ?_ | refine inBlock_ret ?_ | refine inBlock_here ?_ | refine inBlock_out rfl ?_ | refine LWp.seq ?_ | refine LWp.region ?_ | refine LWp.block ?_ | refine LWp.exit ?_ | refine LWp.ret ?_ | refine LWp.skip ?_ | refine LOps.valA ?_ | refine LOps.outA ?_ | refine LOps.whenA ?_ | refine LOps.pickA ?_ | refine LOps.storeA ?_)
  refine LOps.do (LDo.alloc hD rfl rfl rfl) rfl rfl rfl ?_
  rintro _ _ ⟨b5, hb5, rfl, rfl⟩
  have n25 := fresh_ne hb5 k2
  have n35 := fresh_ne hb5 k3
  have n45 := fresh_ne hb5 k4
  have s5 := hle.none hb5
  have n52 := n25.symm
  have n53 := n35.symm
  have n54 := n45.symm
  have hle' := hle.trans (.of_le ((LS.le.refl S1).newBox hb5 [iv 0]))
  have hA : AK S d b2 b3 b4 b5 0 (S1.newBox b5 [iv 0]) := ⟨hle', (box_new_ne _ _ n25).trans k2, (box_new_ne _ _ n35).trans k3, (box_new_ne _ _ n45).trans k4, box_new _ _ _⟩
  refine LOps.gen (AK S d b2 b3 b4 b5 0) hA ?_
  clear hA hle' hle hb5 k2 k3 k4
  intro S1 hA
  have k2 := hA.k2
  have k5 := hA.k5
  repeat (first | refine LOps.nil ?_ | refine andThen_normal ?_ | refine andThen_exit ?_ | refine andThen_ret ?_ | refine inBlock_normal ?_ | refine inBlock_ret ?_ | refine inBlock_here ?_ | refine inBlock_out rfl ?_ | refine LWp.seq ?_ | refine LWp.region ?_ | refine LWp.block ?_ | refine LWp.exit ?_ | refine LWp.ret ?_ | refine LWp.skip ?_ | refine LOps.valA ?_ | refine LOps.outA ?_ | refine LOps.whenA ?_ | refine LOps.pickA ?_ | refine LOps.storeA ?_)
  refine LOps.gen (AK S d b2 b3 b4 b5 0) (hA.set s5 n25 n35 n45 0) ?_
  clear k2 k5 hA
  intro S1 hA
  refine LOps.do (LDo.call rfl rfl (by rw [hP]; exact Try.func33) rfl (by decide) (allI_L hP (some d) _)) rfl rfl rfl ?_
  rintro _ _ ⟨bc, hbc, rfl, rfl⟩
  repeat (first | refine LOps.nil ?_ | refine andThen_normal ?_ | refine andThen_exit ?_ | refine andThen_ret ?_ | refine inBlock_normal ?_ | refine inBlock_ret ?_ | refine inBlock_here ?_ | refine inBlock_out rfl ?_ | refine LWp.seq ?_ | refine LWp.region ?_ | refine LWp.block ?_ | refine LWp.exit ?_ | refine LWp.ret ?_ | refine LWp.skip ?_ | refine LOps.valA ?_ | refine LOps.outA ?_ | refine LOps.whenA ?_ | refine LOps.pickA ?_ | refine LOps.storeA ?_)
  refine LWp.condF rfl ?_
  refine LWp.gen (AK S d b2 b3 b4 b5 0) (hA.new hbc _) ?_
  clear hA hbc
  intro S1 hA
  have k2 := hA.k2
  repeat (first | refine LOps.nil ?_ | refine andThen_normal ?_ | refine andThen_exit ?_ | refine andThen_ret ?_ | refine inBlock_normal ?_ | refine inBlock_ret ?_ | refine inBlock_here ?_ | refine inBlock_out rfl ?_ | refine LWp.seq ?_ | refine LWp.region ?_ | refine LWp.block ?_ | refine LWp.exit ?_ | refine LWp.ret ?_ | refine LWp.skip ?_ | refine LOps.valA ?_ | refine LOps.outA ?_ | refine LOps.whenA ?_ | refine LOps.pickA ?_ | refine LOps.storeA ?_)
  refine LOps.do (LDo.call rfl rfl (by rw [hP]; exact Try.func33) rfl (by decide) (allI_L hP (some d) _)) rfl rfl rfl ?_
  rintro _ _ ⟨bd, hbd, rfl, rfl⟩
  repeat (first | refine LOps.nil ?_ | refine andThen_normal ?_ | refine andThen_exit ?_ | refine andThen_ret ?_ | refine inBlock_normal ?_ | refine inBlock_ret ?_ | refine inBlock_here ?_ | refine inBlock_out rfl ?_ | refine LWp.seq ?_ | refine LWp.region ?_ | refine LWp.block ?_ | refine LWp.exit ?_ | refine LWp.ret ?_ | refine LWp.skip ?_ | refine LOps.valA ?_ | refine LOps.outA ?_ | refine LOps.whenA ?_ | refine LOps.pickA ?_ | refine LOps.storeA ?_)
  have n5d := (fresh_ne hbd hA.k5).symm
  refine LWp.gen (fun S' => AK S d b2 b3 b4 b5 0 S' ∧ S'.box bd = some [dC (some d)]) ⟨hA.new hbd _, box_new _ _ _⟩ ?_
  clear hA k2 hbd
  rintro S1 ⟨hA, kd⟩
  have hlen : (yieldsD (some d)).length = d.los.length := by simp [yieldsD]
  refine LWp.rangeFunc (xs := yieldsD (some d)) (C := fun S => S.box bd = some [dC (some d)]) rfl (by rw [hP]; exact Try.func49) rfl rfl rfl rfl (fun x hx => by
      obtain ⟨k, _, rfl⟩ := List.mem_map.1 hx; rfl) (fun G' h => allI_iter (h.trans hP) (some d) (some_wf hd) bd)
    (fun k S' => AK S d b2 b3 b4 b5 (k : Nat) S' ∧ S'.box bd = some [dC (some d)]) (fun c k S => False)
    (fun k S S' h hle => ⟨h.1.leB hle, hle.box _ _ h.2⟩) (fun c k S S' h hle => h.elim) (fun k S h => h.2) ⟨hA, kd⟩ ?_ ?_ ?_
  · clear hA kd S1
    rintro l k x S1 o hx ⟨hA, kd⟩ ho
    obtain ⟨h1, h2, rfl⟩ := yields_at hd.len hx
    have hat := atI_F hP (some d) (some_wf hd) (k : Int)
    rw [hok.at h1] at hat
    have hhi := hiI_F hP (some d) (fun x e => (some_wf hd x e).small) (k : Int)
    have hrh := refHi_F hP d hsm (k : Int) (by omega)
    repeat (first | refine LOps.nil ?_ | refine andThen_normal ?_ | refine andThen_exit ?_ | refine andThen_ret ?_ | refine inBlock_normal ?_ | refine inBlock_ret ?_ | refine inBlock_here ?_ | refine inBlock_out rfl ?_ | refine LWp.seq ?_ | refine LWp.region ?_ | refine LWp.block ?_ | refine LWp.exit ?_ | refine LWp.ret ?_ | refine LWp.skip ?_ | refine LOps.valA ?_ | refine LOps.outA ?_ | refine LOps.whenA ?_ | refine LOps.pickA ?_ | refine LOps.storeA ?_)
    refine ⟨rfl, ho, fun o' => ?_⟩
    refine LWp.gen (fun S' => S'.obj l = some o' ∧ AK S d b2 b3 b4 b5 (k : Nat) S' ∧ S'.box bd = some [dC (some d)]) ⟨setObj_obj _ _ _, hA.leB (.setObj _ _ _), kd⟩ ?_
    clear hA kd ho
    rintro S1 ⟨ho, hA, kd⟩
    have k2 := hA.k2
    have k3 := hA.k3
    have k5 := hA.k5
    by_cases hmore : k + 1 < d.los.length
    · rw [hok.hi hmore] at hhi hrh
      repeat (first | refine LOps.valH (LVal.call rfl rfl (by rw [hP]; exact Try.func15) rfl (by decide) (hat)) ?_ | refine LOps.valH (LVal.call rfl rfl (by rw [hP]; exact Try.func16) rfl (by decide) (hhi)) ?_ | refine LOps.valH (LVal.call rfl rfl (by rw [hP]; exact Try.func46) rfl (by decide) (hrh)) ?_ | refine LOps.valH (LVal.to (LVal.neqStr rfl rfl rfl) (r' := .one (bv false)) (by simp)) ?_ | refine LWp.condF rfl ?_ | refine LOps.valH (LVal.to (LVal.binOp hD rfl rfl rfl rfl) (r' := .one (.v (.bool true))) (congrArg (fun b => TV.one (.v (.bool b))) (by first | exact decide_eq_true (by omega) | (rw [beq_iff_eq]; omega) | (rw [bne_iff_ne]; omega)))) ?_ | refine LOps.valH (LVal.to (LVal.binOp hD rfl rfl rfl rfl) (r' := .one (.v (.bool false))) (congrArg (fun b => TV.one (.v (.bool b))) (by first | exact decide_eq_false (by omega) | (rw [beq_eq_false_iff_ne]; omega) | (rw [bne_eq_false_iff_eq]; omega)))) ?_ | refine LOps.valW ?_ | refine LOps.nil ?_ | refine andThen_normal ?_ | refine andThen_exit ?_ | refine andThen_ret ?_ | refine inBlock_normal ?_ | refine inBlock_ret ?_ | refine inBlock_here ?_ | refine inBlock_out rfl ?_ | refine LWp.seq ?_ | refine LWp.region ?_ | refine LWp.block ?_ | refine LWp.exit ?_ | refine LWp.ret ?_ | refine LWp.skip ?_ | refine LOps.val (LVal.call rfl rfl (by rw [hP]; exact Try.func15) rfl (by decide) (hat)) rfl rfl rfl ?_ | refine LOps.val (LVal.call rfl rfl (by rw [hP]; exact Try.func16) rfl (by decide) (hhi)) rfl rfl rfl ?_ | refine LOps.val (LVal.call rfl rfl (by rw [hP]; exact Try.func46) rfl (by decide) (hrh)) rfl rfl rfl ?_ | refine LOps.whenC (LVal.call rfl rfl (by rw [hP]; exact Try.func15) rfl (by decide) (hat)) ?_ | refine LOps.whenC (LVal.call rfl rfl (by rw [hP]; exact Try.func16) rfl (by decide) (hhi)) ?_ | refine LOps.whenC (LVal.call rfl rfl (by rw [hP]; exact Try.func46) rfl (by decide) (hrh)) ?_ | refine LOps.valA ?_ | refine LOps.outA ?_ | refine LOps.whenA ?_ | refine LOps.pickA ?_ | refine LOps.storeA ?_)
      exact ⟨ho, hA.set s5 n25 n35 n45 _, (box_set_ne _ _ n5d).trans kd⟩
    · rw [hok.hiNo hmore] at hhi hrh
      repeat (first | refine LOps.valH (LVal.call rfl rfl (by rw [hP]; exact Try.func15) rfl (by decide) (hat)) ?_ | refine LOps.valH (LVal.call rfl rfl (by rw [hP]; exact Try.func16) rfl (by decide) (hhi)) ?_ | refine LOps.valH (LVal.call rfl rfl (by rw [hP]; exact Try.func46) rfl (by decide) (hrh)) ?_ | refine LOps.valH (LVal.to (LVal.neqStr rfl rfl rfl) (r' := .one (bv false)) (by simp)) ?_ | refine LWp.condF rfl ?_ | refine LOps.valH (LVal.to (LVal.binOp hD rfl rfl rfl rfl) (r' := .one (.v (.bool true))) (congrArg (fun b => TV.one (.v (.bool b))) (by first | exact decide_eq_true (by omega) | (rw [beq_iff_eq]; omega) | (rw [bne_iff_ne]; omega)))) ?_ | refine LOps.valH (LVal.to (LVal.binOp hD rfl rfl rfl rfl) (r' := .one (.v (.bool false))) (congrArg (fun b => TV.one (.v (.bool b))) (by first | exact decide_eq_false (by omega) | (rw [beq_eq_false_iff_ne]; omega) | (rw [bne_eq_false_iff_eq]; omega)))) ?_ | refine LOps.valW ?_ | refine LOps.nil ?_ | refine andThen_normal ?_ | refine andThen_exit ?_ | refine andThen_ret ?_ | refine inBlock_normal ?_ | refine inBlock_ret ?_ | refine inBlock_here ?_ | refine inBlock_out rfl ?_ | refine LWp.seq ?_ | refine LWp.region ?_ | refine LWp.block ?_ | refine LWp.exit ?_ | refine LWp.ret ?_ | refine LWp.skip ?_ | refine LOps.val (LVal.call rfl rfl (by rw [hP]; exact Try.func15) rfl (by decide) (hat)) rfl rfl rfl ?_ | refine LOps.val (LVal.call rfl rfl (by rw [hP]; exact Try.func16) rfl (by decide) (hhi)) rfl rfl rfl ?_ | refine LOps.val (LVal.call rfl rfl (by rw [hP]; exact Try.func46) rfl (by decide) (hrh)) rfl rfl rfl ?_ | refine LOps.whenC (LVal.call rfl rfl (by rw [hP]; exact Try.func15) rfl (by decide) (hat)) ?_ | refine LOps.whenC (LVal.call rfl rfl (by rw [hP]; exact Try.func16) rfl (by decide) (hhi)) ?_ | refine LOps.whenC (LVal.call rfl rfl (by rw [hP]; exact Try.func46) rfl (by decide) (hrh)) ?_ | refine LOps.valA ?_ | refine LOps.outA ?_ | refine LOps.whenA ?_ | refine LOps.pickA ?_ | refine LOps.storeA ?_)
      exact ⟨ho, hA.set s5 n25 n35 n45 _, (box_set_ne _ _ n5d).trans kd⟩
  · clear hA kd S1
    rintro S1 ⟨hA, kd⟩
    rw [hlen] at hA
    have k2 := hA.k2
    have k3 := hA.k3
    have k5 := hA.k5
    have k4 := hA.k4
    have hat := atI_F hP (some d) (some_wf hd) ((d.los.length : Nat) : Int)
    have hat2 := atI_F hP (some d) (some_wf hd) (-1)
    have hhi := hiI_F hP (some d) (fun x e => (some_wf hd x e).small) ((d.los.length : Nat) : Int)
    have hhi2 := hiI_F hP (some d) (fun x e => (some_wf hd x e).small) (-1)
    rw [atD_end] at hat
    rw [atD_neg] at hat2
    rw [hiD_end] at hhi
    rw [hiD_neg] at hhi2
    repeat (first | refine LOps.valH (LVal.call rfl rfl (by rw [hP]; exact Try.func15) rfl (by decide) (hat)) ?_ | refine LOps.valH (LVal.call rfl rfl (by rw [hP]; exact Try.func15) rfl (by decide) (hat2)) ?_ | refine LOps.valH (LVal.call rfl rfl (by rw [hP]; exact Try.func16) rfl (by decide) (hhi)) ?_ | refine LOps.valH (LVal.call rfl rfl (by rw [hP]; exact Try.func16) rfl (by decide) (hhi2)) ?_ | refine LOps.valH (LVal.to (LVal.binOp hD rfl rfl rfl rfl) (r' := .one (.v (.bool true))) (congrArg (fun b => TV.one (.v (.bool b))) (by first | exact decide_eq_true (by omega) | (rw [beq_iff_eq]; omega) | (rw [bne_iff_ne]; omega)))) ?_ | refine LOps.valH (LVal.to (LVal.binOp hD rfl rfl rfl rfl) (r' := .one (.v (.bool false))) (congrArg (fun b => TV.one (.v (.bool b))) (by first | exact decide_eq_false (by omega) | (rw [beq_eq_false_iff_ne]; omega) | (rw [bne_eq_false_iff_eq]; omega)))) ?_ | refine LOps.valW ?_ | refine LOps.nil ?_ | refine andThen_normal ?_ | refine andThen_exit ?_ | refine andThen_ret ?_ | refine inBlock_normal ?_ | refine inBlock_ret ?_ | refine inBlock_here ?_ | refine inBlock_out rfl ?_ | refine LWp.seq ?_ | refine LWp.region ?_ | refine LWp.block ?_ | refine LWp.exit ?_ | refine LWp.ret ?_ | refine LWp.skip ?_ | refine LOps.val (LVal.call rfl rfl (by rw [hP]; exact Try.func15) rfl (by decide) (hat)) rfl rfl rfl ?_ | refine LOps.val (LVal.call rfl rfl (by rw [hP]; exact Try.func15) rfl (by decide) (hat2)) rfl rfl rfl ?_ | refine LOps.val (LVal.call rfl rfl (by rw [hP]; exact Try.func16) rfl (by decide) (hhi)) rfl rfl rfl ?_ | refine LOps.val (LVal.call rfl rfl (by rw [hP]; exact Try.func16) rfl (by decide) (hhi2)) rfl rfl rfl ?_ | refine LOps.whenC (LVal.call rfl rfl (by rw [hP]; exact Try.func15) rfl (by decide) (hat)) ?_ | refine LOps.whenC (LVal.call rfl rfl (by rw [hP]; exact Try.func15) rfl (by decide) (hat2)) ?_ | refine LOps.whenC (LVal.call rfl rfl (by rw [hP]; exact Try.func16) rfl (by decide) (hhi)) ?_ | refine LOps.whenC (LVal.call rfl rfl (by rw [hP]; exact Try.func16) rfl (by decide) (hhi2)) ?_ | refine LOps.valA ?_ | refine LOps.outA ?_ | refine LOps.whenA ?_ | refine LOps.pickA ?_ | refine LOps.storeA ?_)
    exact ⟨_, LRes.cell rfl (.cell rfl (box_set _ _ _) (hP ▸ tok4) rfl), rfl, hA.le.setBox s4 _⟩
  · intro c k S _ h
    exact h.elim
end Go.Proofs.Ytkjbdldjfjkneaa.LF
