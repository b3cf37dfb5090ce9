/- The walk of the law 'BlnodeSplits'. (Printed by gen_bsplits.py.) -/
import Derived.Test.YtjcpcgneghanfaaLCc
set_option linter.unusedVariables false
set_option linter.unusedSimpArgs false
namespace Go.Proofs.Ytjcpcgneghanfaa.LF
open Go.RowKit
set_option linter.unusedVariables false

theorem noSplit_all (n : NdV) : noSplit n = ((!rightN n || decide ((n.keys.length : Int) < 2)) || (!n.leaf && decide ((n.keys.length : Int) < 3))) := by
  unfold noSplit
  rw [Bool.eq_iff_iff]
  cases rightN n <;> cases n.leaf <;> simp <;> omega
section
variable {S0 S S' : LS} {n m : NdV} {X X' Y Z XB YB ZB : LV}
theorem Mv.newLe' (hle : S0.le S) (hn : ∀ c, blockOf X = some c → S0.box c = none) (k : Mv S X S' X') : S0.le S' ∧ ∀ c, blockOf X' = some c → S0.box c = none := Mv.newLe hle hn k
theorem Mv.offP {α : Type} {f : α → List LV} {z : Nat} {l : List α} (k : Mv S X S' X') (h : PtAt f z S Y l) (hne : ∀ c, blockOf X = some c → blockOf Y ≠ some c) : PtAt f z S' Y l ∧ ∀ c, blockOf X' = some c → blockOf Y ≠ some c := by
  refine ⟨h.keep fun b cs h1 h2 => (k.box b cs h2 fun e => hne b e h1).1, fun c hc e => ?_⟩
  obtain ⟨cs, hcs⟩ := h.block c e
  exact (k.box c cs hcs fun e2 => hne c e2 e).2 hc
theorem Rwp.setX {ks : List ByteArray} (R : Rwp S0 S n X Y Z) (hle : S0.le S) (k : PtAt sL 1 S' X' ks) (mv : Mv S X S' X') : Rwp S0 S' { n with keys := ks } X' Y Z ∧ S0.le S' := by
  obtain ⟨h1, h2⟩ := mv.newLe hle R.nx
  obtain ⟨y1, y2⟩ := mv.offP R.y R.xy
  obtain ⟨z1, z2⟩ := mv.offP R.z R.xz
  exact ⟨⟨k, y1, z1, h2, R.ny, R.nz, y2, z2, R.yz⟩, h1⟩
theorem Rwp.setY {ks : List ByteArray} (R : Rwp S0 S n Y X Z) (hle : S0.le S) (k : PtAt sL 1 S' X' ks) (mv : Mv S X S' X') : Rwp S0 S' { n with vals := ks } Y X' Z ∧ S0.le S' := by
  obtain ⟨h1, h2⟩ := mv.newLe hle R.ny
  obtain ⟨y1, y2⟩ := mv.offP R.x (fun c h e => R.xy c e h)
  obtain ⟨z1, z2⟩ := mv.offP R.z R.yz
  exact ⟨⟨y1, k, z1, R.nx, h2, R.nz, fun c h e => y2 c e h, R.xz, z2⟩, h1⟩
theorem Rwp.setZ {ks : List HdV} (R : Rwp S0 S n Y Z X) (hle : S0.le S) (k : PtAt hdL 2 S' X' ks) (mv : Mv S X S' X') : Rwp S0 S' { n with kids := ks } Y Z X' ∧ S0.le S' := by
  obtain ⟨h1, h2⟩ := mv.newLe hle R.nz
  obtain ⟨y1, y2⟩ := mv.offP R.x (fun c h e => R.xz c e h)
  obtain ⟨z1, z2⟩ := mv.offP R.y (fun c h e => R.yz c e h)
  exact ⟨⟨y1, z1, k, R.nx, R.ny, h2, R.xy, fun c h e => y2 c e h, fun c h e => z2 c e h⟩, h1⟩
/-- Another node beside a slice that was moved. -/
theorem Rwp.beside (R : Rwp S0 S n XB YB ZB) (mv : Mv S X S' X') (h : ∀ c, blockOf XB = some c ∨ blockOf YB = some c ∨ blockOf ZB = some c → blockOf X ≠ some c) : Rwp S0 S' n XB YB ZB ∧ ∀ c, blockOf XB = some c ∨ blockOf YB = some c ∨ blockOf ZB = some c → blockOf X' ≠ some c := by
  refine ⟨R.keep fun c cs hc hx => (mv.box c cs hc (h c hx)).1, fun c hx => ?_⟩
  have : ∃ cs, S.box c = some cs := by
    rcases hx with hx | hx | hx
    · exact R.x.block c hx
    · exact R.y.block c hx
    · exact R.z.block c hx
  obtain ⟨cs, hcs⟩ := this
  exact (mv.box c cs hcs (h c hx)).2
end
/-- Two new variables. -/
structure New2 (S S' : LS) (a b : Nat) (v w : List LV) : Prop where
  le : S.le S'
  ka : S'.box a = some v
  kb : S'.box b = some w
  ab : a ≠ b
  na : S.box a = none
  nb : S.box b = none
theorem new2_of {S S1 : LS} {a b : Nat} {v w : List LV} (h : S.le S1) (na : S.box a = none) (nb : S.box b = none) (ab : a ≠ b) : New2 S ((S1.setBox a v).setBox b w) a b v w :=
  ⟨(h.setBox na _).setBox nb _, (box_set_ne _ _ ab).trans (box_set _ _ _), box_set _ _ _, ab, na, nb⟩
theorem fresh2 {S : LS} {a b : Nat} {z1 : List LV} (h1 : S.fresh a) (h2 : (S.newBox a z1).fresh b) : S.box a = none ∧ S.box b = none ∧ a ≠ b ∧ ∀ z2, S.le ((S.newBox a z1).newBox b z2) ∧ ((S.newBox a z1).newBox b z2).box a = some z1 ∧ ((S.newBox a z1).newBox b z2).box b = some z2 := by
  have l1 := LS.le.newBox (.refl S) h1 z1
  have ab : a ≠ b := fresh_ne h2 (box_new S a z1)
  exact ⟨h1.box, l1.none h2, ab, fun z2 => ⟨l1.newBox h2 z2, (box_new_ne _ _ ab).trans (box_new S a z1), box_new _ b z2⟩⟩

def preX (n : NdV) (m : Nat) : NdV := if n.leaf then { n with keys := n.keys.take m, vals := n.vals.take m } else { n with keys := n.keys.take m, kids := n.kids.take (m + 1) }

set_option maxHeartbeats 64000000 in
set_option maxRecDepth 20000 in
theorem splits_L {G : Ctx} (hP : G.P = Try.prog) (n : NdV) (hz : n.sz) (next : HdV) (S : LS) : LCalls G 5 [.agg (ndL n), .agg (hdL next)] (fun r _ => r = .one (bv true)) S := by
  have hD : TabOK G.P D := by rw [hP]; exact hD0
  have ca := awake_F hP
  have cg := great_F hP n hz
  refine LCalls.enter (fn := Try.f5) (by rw [hP]; exact Try.func5) rfl rfl ?_
  repeat (first | refine LOps.nil ?_ | refine andThen_normal ?_ | refine andThen_exit ?_ | refine andThen_ret ?_ | refine inBlock_normal ?_ | refine inBlock_ret ?_ | refine inBlock_here ?_ | refine inBlock_out rfl ?_ | refine LWp.seq ?_ | refine LWp.region ?_ | refine LWp.block ?_ | refine LWp.exit ?_ | refine LWp.ret ?_ | refine LWp.skip ?_ | refine LOps.valA ?_ | refine LOps.outA ?_ | refine LOps.whenA ?_ | refine LOps.pickA ?_ | refine LOps.storeA ?_)
  have hle := LS.le.refl S
  refine LOps.do (LDo.box rfl rfl) rfl rfl rfl ?_
  rintro _ _ ⟨b2, hb2, rfl, rfl⟩
  have s2 := hle.none hb2
  refine LOps.gen (fun S' => S.le S' ∧ S'.box b2 = some (ndL n)) ⟨hle.newBox hb2 _, box_new _ _ _⟩ ?_
  clear hle hb2 
  rintro S2 ⟨hle, k2⟩
  skip
  refine LOps.do (LDo.box rfl rfl) rfl rfl rfl ?_
  rintro _ _ ⟨b3, hb3, rfl, rfl⟩
  have n2_3 := fresh_ne hb3 k2
  have m3_2 := n2_3.symm
  have s3 := hle.none hb3
  refine LOps.gen (fun S' => S.le S' ∧ S'.box b2 = some (ndL n) ∧ S'.box b3 = some (hdL next)) ⟨hle.newBox hb3 _, (box_new_ne _ _ n2_3).trans k2, box_new _ _ _⟩ ?_
  clear hle hb3 k2
  rintro S3 ⟨hle, k2, k3⟩
  repeat (first | refine LOps.nil ?_ | refine andThen_normal ?_ | refine andThen_exit ?_ | refine andThen_ret ?_ | refine inBlock_normal ?_ | refine inBlock_ret ?_ | refine inBlock_here ?_ | refine inBlock_out rfl ?_ | refine LWp.seq ?_ | refine LWp.region ?_ | refine LWp.block ?_ | refine LWp.exit ?_ | refine LWp.ret ?_ | refine LWp.skip ?_ | refine LOps.val (LVal.call rfl rfl (by rw [hP]; exact Try.func10) rfl (by decide) (ca)) rfl rfl rfl ?_ | refine LOps.whenC (LVal.call rfl rfl (by rw [hP]; exact Try.func10) rfl (by decide) (ca)) ?_ | refine LOps.valA ?_ | refine LOps.outA ?_ | refine LOps.whenA ?_ | refine LOps.pickA ?_ | refine LOps.storeA ?_)
  refine LWp.condF rfl ?_
  repeat (first | refine LOps.valH (LVal.load hD rfl rfl k2 rfl rfl) ?_ | refine LOps.nil ?_ | refine andThen_normal ?_ | refine andThen_exit ?_ | refine andThen_ret ?_ | refine inBlock_normal ?_ | refine inBlock_ret ?_ | refine inBlock_here ?_ | refine inBlock_out rfl ?_ | refine LWp.seq ?_ | refine LWp.region ?_ | refine LWp.block ?_ | refine LWp.exit ?_ | refine LWp.ret ?_ | refine LWp.skip ?_ | refine LOps.val (LVal.call rfl rfl (by rw [hP]; exact Try.func11) rfl (by decide) (cg)) rfl rfl rfl ?_ | refine LOps.whenC (LVal.call rfl rfl (by rw [hP]; exact Try.func11) rfl (by decide) (cg)) ?_ | refine LOps.valA ?_ | refine LOps.outA ?_ | refine LOps.whenA ?_ | refine LOps.pickA ?_ | refine LOps.storeA ?_)
  refine LWp.cond rfl (fun h => ?_) (fun h => ?_)
  · repeat (first | refine LOps.nil ?_ | refine andThen_normal ?_ | refine andThen_exit ?_ | refine andThen_ret ?_ | refine inBlock_normal ?_ | refine inBlock_ret ?_ | refine inBlock_here ?_ | refine inBlock_out rfl ?_ | refine LWp.seq ?_ | refine LWp.region ?_ | refine LWp.block ?_ | refine LWp.exit ?_ | refine LWp.ret ?_ | refine LWp.skip ?_ | refine LOps.valA ?_ | refine LOps.outA ?_ | refine LOps.whenA ?_ | refine LOps.pickA ?_ | refine LOps.storeA ?_)
    exact ⟨_, LRes.one rfl, rfl⟩
  have h : greatN n = false := h
  have hg := greatN_ok h
  clear h
  have hn : n.ok := ⟨by omega, by omega, by omega⟩
  have hml : (n.keys.map sL).length = n.keys.length := List.length_map ..
  have hnk := hn.keys
  have c1 := copied_F hP n hn
  have c2 := lright_F hP n hn hz
  repeat (first | refine LOps.valH (LVal.load hD rfl rfl k2 rfl rfl) ?_ | refine LOps.nil ?_ | refine andThen_normal ?_ | refine andThen_exit ?_ | refine andThen_ret ?_ | refine inBlock_normal ?_ | refine inBlock_ret ?_ | refine inBlock_here ?_ | refine inBlock_out rfl ?_ | refine LWp.seq ?_ | refine LWp.region ?_ | refine LWp.block ?_ | refine LWp.exit ?_ | refine LWp.ret ?_ | refine LWp.skip ?_ | refine LOps.val (LVal.call rfl rfl (by rw [hP]; exact Try.func23) rfl (by decide) (c1)) rfl rfl rfl ?_ | refine LOps.whenC (LVal.call rfl rfl (by rw [hP]; exact Try.func23) rfl (by decide) (c1)) ?_ | refine LOps.valA ?_ | refine LOps.outA ?_ | refine LOps.whenA ?_ | refine LOps.pickA ?_ | refine LOps.storeA ?_)
  skip
  refine LOps.do (LDo.alloc hD rfl rfl rfl) rfl rfl rfl ?_
  rintro _ _ ⟨b5, hb5, rfl, rfl⟩
  have n2_5 := fresh_ne hb5 k2
  have m5_2 := n2_5.symm
  have n3_5 := fresh_ne hb5 k3
  have m5_3 := n3_5.symm
  have s5 := hle.none hb5
  refine LOps.gen (fun S' => S.le S' ∧ S'.box b2 = some (ndL n) ∧ S'.box b3 = some (hdL next) ∧ S'.box b5 = some (ndX noNd (.sl .nil []) (.sl .nil []) (.sl .nil []))) ⟨hle.newBox hb5 _, (box_new_ne _ _ n2_5).trans k2, (box_new_ne _ _ n3_5).trans k3, box_new _ _ _⟩ ?_
  clear hle hb5 k2 k3
  rintro S5 ⟨hle, k2, k3, k5⟩
  repeat (first | refine LOps.nil ?_ | refine andThen_normal ?_ | refine andThen_exit ?_ | refine andThen_ret ?_ | refine inBlock_normal ?_ | refine inBlock_ret ?_ | refine inBlock_here ?_ | refine inBlock_out rfl ?_ | refine LWp.seq ?_ | refine LWp.region ?_ | refine LWp.block ?_ | refine LWp.exit ?_ | refine LWp.ret ?_ | refine LWp.skip ?_ | refine LOps.valA ?_ | refine LOps.outA ?_ | refine LOps.whenA ?_ | refine LOps.pickA ?_)
  refine LOps.storeA (b := b5) (off := 0) (cs := ndX noNd (.sl .nil []) (.sl .nil []) (.sl .nil [])) (l := ndL n) ?_
  refine LOps.gen (fun S' => S.le S' ∧ S'.box b2 = some (ndL n) ∧ S'.box b3 = some (hdL next) ∧ S'.box b5 = some (ndL n)) ⟨hle.setBox s5 _, (box_set_ne _ _ n2_5).trans k2, (box_set_ne _ _ n3_5).trans k3, (box_set _ _ _).trans (congrArg some (rfl))⟩ ?_
  clear hle k2 k3 k5
  rintro Ss ⟨hle, k2, k3, k5⟩
  repeat (first | refine LOps.valH (LVal.load hD rfl rfl k5 rfl rfl) ?_ | refine LOps.valH (LVal.load hD rfl rfl k3 rfl rfl) ?_ | refine LOps.nil ?_ | refine andThen_normal ?_ | refine andThen_exit ?_ | refine andThen_ret ?_ | refine inBlock_normal ?_ | refine inBlock_ret ?_ | refine inBlock_here ?_ | refine inBlock_out rfl ?_ | refine LWp.seq ?_ | refine LWp.region ?_ | refine LWp.block ?_ | refine LWp.exit ?_ | refine LWp.ret ?_ | refine LWp.skip ?_ | refine LOps.valA ?_ | refine LOps.outA ?_ | refine LOps.whenA ?_ | refine LOps.pickA ?_)
  refine LOps.do (LDo.callF (split_L hP n hn next _) (by rw [hP]; exact Try.func24)) rfl rfl rfl ?_
  rintro _ S6 ⟨XA, YA, ZA, XB, YB, ZB, rfl, le1, R0, Q0, apt⟩
  have offa2 := R0.offOld k2
  have offa3 := R0.offOld k3
  have offa5 := R0.offOld k5
  have offb2 := Q0.offOld k2
  have offb3 := Q0.offOld k3
  have offb5 := Q0.offOld k5
  have RA := R0.base hle
  have RB := Q0.base hle
  replace hle := hle.trans le1
  replace k2 := le1.box _ _ k2
  replace k3 := le1.box _ _ k3
  replace k5 := le1.box _ _ k5
  clear R0 Q0 le1
  repeat (first | refine LOps.nil ?_ | refine andThen_normal ?_ | refine andThen_exit ?_ | refine andThen_ret ?_ | refine inBlock_normal ?_ | refine inBlock_ret ?_ | refine inBlock_here ?_ | refine inBlock_out rfl ?_ | refine LWp.seq ?_ | refine LWp.region ?_ | refine LWp.block ?_ | refine LWp.exit ?_ | refine LWp.ret ?_ | refine LWp.skip ?_ | refine LOps.valA ?_ | refine LOps.outA ?_ | refine LOps.whenA ?_ | refine LOps.pickA ?_)
  refine LOps.do (LDo.alloc hD rfl rfl rfl) rfl rfl rfl ?_
  rintro _ _ ⟨b6, hb6, rfl, rfl⟩
  have s6 := hle.none hb6
  have n2_6 := fresh_ne hb6 k2
  have n3_6 := fresh_ne hb6 k3
  have n5_6 := fresh_ne hb6 k5
  have offa6 := RA.offNew hb6.box
  have offb6 := RB.offNew hb6.box
  refine LOps.gen (fun S' => S.le S' ∧ S'.box b2 = some (ndL n) ∧ S'.box b3 = some (hdL next) ∧ S'.box b5 = some (ndL n) ∧ S'.box b6 = some (lzero ti28) ∧ Rwp S S' (splitN n next).1 XA YA ZA ∧ Rwp S S' (splitN n next).2.1 XB YB ZB) ⟨hle.newBox hb6 _, (box_new_ne _ _ n2_6).trans k2, (box_new_ne _ _ n3_6).trans k3, (box_new_ne _ _ n5_6).trans k5, box_new _ _ _, RA.le (.newBox (.refl _) hb6 _), RB.le (.newBox (.refl _) hb6 _)⟩ ?_
  clear hle hb6 RA RB k2 k3 k5
  rintro Sn ⟨hle, k2, k3, k5, k6, RA, RB⟩
  refine LOps.do (LDo.alloc hD rfl rfl rfl) rfl rfl rfl ?_
  rintro _ _ ⟨b7, hb7, rfl, rfl⟩
  have s7 := hle.none hb7
  have n2_7 := fresh_ne hb7 k2
  have n3_7 := fresh_ne hb7 k3
  have n5_7 := fresh_ne hb7 k5
  have n6_7 := fresh_ne hb7 k6
  have offa7 := RA.offNew hb7.box
  have offb7 := RB.offNew hb7.box
  refine LOps.gen (fun S' => S.le S' ∧ S'.box b2 = some (ndL n) ∧ S'.box b3 = some (hdL next) ∧ S'.box b5 = some (ndL n) ∧ S'.box b6 = some (lzero ti28) ∧ S'.box b7 = some (lzero ti28) ∧ Rwp S S' (splitN n next).1 XA YA ZA ∧ Rwp S S' (splitN n next).2.1 XB YB ZB) ⟨hle.newBox hb7 _, (box_new_ne _ _ n2_7).trans k2, (box_new_ne _ _ n3_7).trans k3, (box_new_ne _ _ n5_7).trans k5, (box_new_ne _ _ n6_7).trans k6, box_new _ _ _, RA.le (.newBox (.refl _) hb7 _), RB.le (.newBox (.refl _) hb7 _)⟩ ?_
  clear hle hb7 RA RB k2 k3 k5 k6
  rintro Sn ⟨hle, k2, k3, k5, k6, k7, RA, RB⟩
  repeat (first | refine LOps.nil ?_ | refine andThen_normal ?_ | refine andThen_exit ?_ | refine andThen_ret ?_ | refine inBlock_normal ?_ | refine inBlock_ret ?_ | refine inBlock_here ?_ | refine inBlock_out rfl ?_ | refine LWp.seq ?_ | refine LWp.region ?_ | refine LWp.block ?_ | refine LWp.exit ?_ | refine LWp.ret ?_ | refine LWp.skip ?_ | refine LOps.valA ?_ | refine LOps.outA ?_ | refine LOps.whenA ?_ | refine LOps.pickA ?_)
  refine LOps.storeA (b := b6) (off := 0) (cs := lzero ti28) (l := ndX (splitN n next).1 XA YA ZA) ?_
  refine LOps.gen (fun S' => S.le S' ∧ S'.box b2 = some (ndL n) ∧ S'.box b3 = some (hdL next) ∧ S'.box b5 = some (ndL n) ∧ S'.box b6 = some (ndX (splitN n next).1 XA YA ZA) ∧ S'.box b7 = some (lzero ti28) ∧ Rwp S S' (splitN n next).1 XA YA ZA ∧ Rwp S S' (splitN n next).2.1 XB YB ZB) ⟨hle.setBox s6 _, (box_set_ne _ _ n2_6).trans k2, (box_set_ne _ _ n3_6).trans k3, (box_set_ne _ _ n5_6).trans k5, box_set _ _ _, (box_set_ne _ _ n6_7.symm).trans k7, RA.set offa6 _, RB.set offb6 _⟩ ?_
  clear hle k2 k3 k5 k6 k7 RA RB
  rintro Sn ⟨hle, k2, k3, k5, k6, k7, RA, RB⟩
  repeat (first | refine LOps.nil ?_ | refine andThen_normal ?_ | refine andThen_exit ?_ | refine andThen_ret ?_ | refine inBlock_normal ?_ | refine inBlock_ret ?_ | refine inBlock_here ?_ | refine inBlock_out rfl ?_ | refine LWp.seq ?_ | refine LWp.region ?_ | refine LWp.block ?_ | refine LWp.exit ?_ | refine LWp.ret ?_ | refine LWp.skip ?_ | refine LOps.valA ?_ | refine LOps.outA ?_ | refine LOps.whenA ?_ | refine LOps.pickA ?_)
  refine LOps.storeA (b := b7) (off := 0) (cs := lzero ti28) (l := ndX (splitN n next).2.1 XB YB ZB) ?_
  refine LOps.gen (fun S' => S.le S' ∧ S'.box b2 = some (ndL n) ∧ S'.box b3 = some (hdL next) ∧ S'.box b5 = some (ndL n) ∧ S'.box b6 = some (ndX (splitN n next).1 XA YA ZA) ∧ S'.box b7 = some (ndX (splitN n next).2.1 XB YB ZB) ∧ Rwp S S' (splitN n next).1 XA YA ZA ∧ Rwp S S' (splitN n next).2.1 XB YB ZB) ⟨hle.setBox s7 _, (box_set_ne _ _ n2_7).trans k2, (box_set_ne _ _ n3_7).trans k3, (box_set_ne _ _ n5_7).trans k5, (box_set_ne _ _ n6_7).trans k6, box_set _ _ _, RA.set offa7 _, RB.set offb7 _⟩ ?_
  clear hle k2 k3 k5 k6 k7 RA RB
  rintro Sn ⟨hle, k2, k3, k5, k6, k7, RA, RB⟩
  repeat (first | refine LOps.valH (LVal.load hD rfl rfl k2 rfl rfl) ?_ | refine LOps.nil ?_ | refine andThen_normal ?_ | refine andThen_exit ?_ | refine andThen_ret ?_ | refine inBlock_normal ?_ | refine inBlock_ret ?_ | refine inBlock_here ?_ | refine inBlock_out rfl ?_ | refine LWp.seq ?_ | refine LWp.region ?_ | refine LWp.block ?_ | refine LWp.exit ?_ | refine LWp.ret ?_ | refine LWp.skip ?_ | refine LOps.val (LVal.call rfl rfl (by rw [hP]; exact Try.func12) rfl (by decide) (c2)) rfl rfl rfl ?_ | refine LOps.whenC (LVal.call rfl rfl (by rw [hP]; exact Try.func12) rfl (by decide) (c2)) ?_ | refine LOps.valA ?_ | refine LOps.outA ?_ | refine LOps.whenA ?_ | refine LOps.pickA ?_ | refine LOps.storeA ?_)
  refine LWp.cond rfl (fun hx => ?_) (fun hx => ?_)
  · have hx : ((!rightN n || decide (((n.keys.map sL).length : Int) < 2)) || (!n.leaf && decide (((n.keys.map sL).length : Int) < 3))) = true := hx
    rw [hml, ← noSplit_all] at hx
    have e := split_no hx next
    rw [e] at k6 k7 RA RB
    have okn : noNd.ok := ⟨by decide, by decide, by decide⟩
    repeat (first | refine LOps.valH (LVal.load hD rfl rfl k6 rfl rfl) ?_ | refine LOps.valH (LVal.load hD rfl rfl k2 rfl rfl) ?_ | refine LOps.valH (LVal.callAny (fun G' e => equal_F (e.trans hP) n n hn) rfl rfl (by rw [hP]; exact Try.func22) rfl (by decide) ⟨.agg RA.views, .agg (nd_views _ _), trivial⟩) ?_ | refine LOps.whenC (LVal.load hD rfl rfl k7 rfl rfl) ?_ | refine LOps.whenC (r := .agg (ndX noNd (.sl .nil []) (.sl .nil []) (.sl .nil []))) (LVal.to (LVal.build hD rfl rfl rfl rfl rfl rfl rfl) rfl) ?_ | refine LOps.whenC (LVal.callAny (fun G' e => equal_F (e.trans hP) noNd noNd okn) rfl rfl (by rw [hP]; exact Try.func22) rfl (by decide) ⟨.agg RB.views, .agg ⟨.same _, .sh _ _, .sh _ _, .sh _ _, .same _, .same _, .same _, .same _, trivial⟩, trivial⟩) ?_ | refine LOps.nil ?_ | refine andThen_normal ?_ | refine andThen_exit ?_ | refine andThen_ret ?_ | refine inBlock_normal ?_ | refine inBlock_ret ?_ | refine inBlock_here ?_ | refine inBlock_out rfl ?_ | refine LWp.seq ?_ | refine LWp.region ?_ | refine LWp.block ?_ | refine LWp.exit ?_ | refine LWp.ret ?_ | refine LWp.skip ?_ | refine LOps.valA ?_ | refine LOps.outA ?_ | refine LOps.whenA ?_ | refine LOps.pickA ?_ | refine LOps.storeA ?_)
    refine ⟨_, LRes.one rfl, ?_⟩
    show TV.one (bv ((decide (n = n) && decide (noNd = noNd)) && decide ((splitN n next).2.2 = noBytes))) = _
    rw [e]
    simp
  have hx : ((!rightN n || decide (((n.keys.map sL).length : Int) < 2)) || (!n.leaf && decide (((n.keys.map sL).length : Int) < 3))) = false := hx
  rw [hml, ← noSplit_all] at hx
  have hr : rightN n = true := by
    have h2 := hx
    unfold noSplit at h2
    rw [Bool.or_eq_false_iff] at h2
    simpa using h2.1
  have H := half_of hr hx hg.1 next
  have oka := H.ol
  have okb := H.or
  have hlo : 2 ≤ n.keys.length := by
    rw [noSplit_all] at hx
    simp only [Bool.or_eq_false_iff, decide_eq_false_iff_not] at hx
    omega
  obtain ⟨m, hm⟩ : ∃ m, m = n.keys.length / 2 := ⟨_, rfl⟩
  have hm1 : m < n.keys.length := by omega
  have hsep : n.keys.getD m noBytes = n.keys[m] := getD_key hm1
  have esp : splitN n next = (⟨(preX n m).leaf, (preX n m).keys, (preX n m).vals, (preX n m).kids, n.keys.getD m noBytes, true, next⟩, if n.leaf then n.upL m else n.upI m, n.keys.getD m noBytes) := by
    unfold splitN preX
    rw [if_neg (by rw [hx]; decide), ← hm]
    by_cases hl : n.leaf = true
    · simp only [if_pos hl]; rfl
    · simp only [if_neg hl]; rfl
  have esep : (splitN n next).2.2 = n.keys[m] := by rw [esp]; exact hsep
  have ea : (splitN n next).1 = ⟨(preX n m).leaf, (preX n m).keys, (preX n m).vals, (preX n m).kids, n.keys[m], true, next⟩ := by rw [esp, ← hsep]
  have eb : (splitN n next).2.1 = if n.leaf then n.upL m else n.upI m := by rw [esp]
  have hlk : (splitN n next).1.keys.length ≤ 300 ∧ (splitN n next).1.vals.length ≤ 300 ∧ (splitN n next).1.kids.length ≤ 301 := by
    rw [ea]
    show (preX n m).keys.length ≤ 300 ∧ (preX n m).vals.length ≤ 300 ∧ (preX n m).kids.length ≤ 301
    unfold preX
    split
    · refine ⟨?_, ?_, hg.2.2⟩
      · show (n.keys.take m).length ≤ 300
        rw [List.length_take]; omega
      · show (n.vals.take m).length ≤ 300
        rw [List.length_take]; omega
    · refine ⟨?_, hg.2.1, ?_⟩
      · show (n.keys.take m).length ≤ 300
        rw [List.length_take]; omega
      · show (n.kids.take (m + 1)).length ≤ 301
        rw [List.length_take]; omega
  clear esp H
  refine LWp.slots [(2, ptr b2), (3, ptr b3), (5, ptr b5), (6, ptr b6), (7, ptr b7), (8, .one (sv n.keys[m])), (9, .one (iv (n.keys.length : Nat)))] ⟨rfl, rfl, rfl, rfl, rfl, by rw [← esep]; rfl, by rw [← hml]; rfl, trivial⟩ fun T9 => ?_
  generalize (splitN n next).1 = a at *
  generalize (splitN n next).2.1 = b at *
  repeat (first | refine LOps.valH (LVal.to (LVal.quo64 rfl rfl rfl (by omega)) (r' := .one (iv (m : Nat))) (by refine congrArg (fun x => TV.one (iv x)) ?_; omega)) ?_ | refine LOps.nil ?_ | refine andThen_normal ?_ | refine andThen_exit ?_ | refine andThen_ret ?_ | refine inBlock_normal ?_ | refine inBlock_ret ?_ | refine inBlock_here ?_ | refine inBlock_out rfl ?_ | refine LWp.seq ?_ | refine LWp.region ?_ | refine LWp.block ?_ | refine LWp.exit ?_ | refine LWp.ret ?_ | refine LWp.skip ?_ | refine LOps.valA ?_ | refine LOps.outA ?_ | refine LOps.whenA ?_ | refine LOps.pickA ?_ | refine LOps.storeA ?_)
  refine LWp.join (fun T' S' => ∃ (b11 b12 : Nat) (T'' : Nat → TV), New2 Sn S' b11 b12 (ndL n) (ndL n) ∧ T' = over T'' [(2, ptr b2), (3, ptr b3), (5, ptr b5), (6, ptr b6), (7, ptr b7), (8, .one (sv n.keys[m])), (10, .one (iv (m : Nat))), (11, ptr b11), (12, ptr b12)]) ?_ ?_
  · refine LWp.drawX (fun b => Sn.box b = none) [0, 1, 2, 3, 4, 5, 6, 7] (by rw [hP]; rfl) rfl ?_
    repeat (first | refine LRl.val (fun _ hS => LVal.load hD rfl rfl (hS.box _ _ k2 (fun hx => by have h2 : Sn.box b2 = none := hx; rw [k2] at h2; cases h2)) rfl rfl) rfl rfl rfl ?_ | refine LRl.valC (fun _ => (LVal.call rfl rfl (by rw [hP]; exact Try.func23) rfl (by decide) (c1))) ?_ | refine LRl.whenC (fun _ => (LVal.call rfl rfl (by rw [hP]; exact Try.func23) rfl (by decide) (c1))) ?_ | refine LRl.nil ?_ | refine LRl.valA ?_ | refine LRl.outA ?_ | refine LRl.whenA ?_ | refine LRl.pickA ?_)
    refine LRl.alt [0, 1, 2, 3, 5, 4, 6, 7] rfl (LDo.alloc hD rfl rfl rfl) (LDo.alloc hD rfl rfl rfl) rfl rfl rfl rfl rfl rfl (by rintro _ _ ⟨b, hb, _, rfl⟩; exact fun _ _ => .newBox hb _) (by rintro _ _ ⟨b, hb, _, rfl⟩; exact fun _ _ => .newBox hb _) ?_ ?_
    · rintro _ _ ⟨bx, hbx, rfl, rfl⟩
      refine LRl.actA (LDo.alloc hD rfl rfl rfl).toAct rfl rfl rfl rfl (by rintro _ _ ⟨b, hb, rfl, rfl⟩ q _; exact .inl (.newBox hb _)) ?_
      rintro _ _ ⟨bz, hbz, rfl, rfl⟩
      obtain ⟨fx, fz, dxz, hle2⟩ := fresh2 hbx hbz
      obtain ⟨l2, kx, kz⟩ := hle2 (lzero ti28)
      refine LRl.actA0 (LDo.store hD rfl rfl kx rfl rfl rfl rfl).toAct rfl rfl rfl (by rintro _ _ ⟨rfl, rfl⟩ q hq; exact .inl (LS.leX.setBox fx _)) ?_
      rintro _ _ ⟨rfl, rfl⟩
      refine LRl.actA0 (LDo.store hD rfl rfl ((box_set_ne _ _ dxz.symm).trans kz) rfl rfl rfl rfl).toAct rfl rfl rfl (by rintro _ _ ⟨rfl, rfl⟩ q hq; exact .inl (LS.leX.setBox fz _)) ?_
      rintro _ _ ⟨rfl, rfl⟩
      refine LRl.nil ?_
      exact ⟨bx, bz, _, new2_of l2 fx fz dxz, holds.over ⟨rfl, rfl, rfl, rfl, rfl, rfl, rfl, rfl, rfl, trivial⟩⟩
    · rintro _ _ ⟨bx, hbx, rfl, rfl⟩
      refine LRl.actA (LDo.alloc hD rfl rfl rfl).toAct rfl rfl rfl rfl (by rintro _ _ ⟨b, hb, rfl, rfl⟩ q _; exact .inl (.newBox hb _)) ?_
      rintro _ _ ⟨bz, hbz, rfl, rfl⟩
      obtain ⟨fx, fz, dxz, hle2⟩ := fresh2 hbx hbz
      obtain ⟨l2, kx, kz⟩ := hle2 (lzero ti28)
      refine LRl.actA0 (LDo.store hD rfl rfl kz rfl rfl rfl rfl).toAct rfl rfl rfl (by rintro _ _ ⟨rfl, rfl⟩ q hq; exact .inl (LS.leX.setBox fz _)) ?_
      rintro _ _ ⟨rfl, rfl⟩
      refine LRl.actA0 (LDo.store hD rfl rfl ((box_set_ne _ _ dxz).trans kx) rfl rfl rfl rfl).toAct rfl rfl rfl (by rintro _ _ ⟨rfl, rfl⟩ q hq; exact .inl (LS.leX.setBox fx _)) ?_
      rintro _ _ ⟨rfl, rfl⟩
      refine LRl.nil ?_
      exact ⟨bz, bx, _, new2_of l2 fz fx dxz.symm, holds.over ⟨rfl, rfl, rfl, rfl, rfl, rfl, rfl, rfl, rfl, trivial⟩⟩
  rintro _ Sw ⟨b11, b12, T16, nw, rfl⟩
  have offa11 := RA.offNew nw.na
  have offa12 := RA.offNew nw.nb
  have offb11 := RB.offNew nw.na
  have offb12 := RB.offNew nw.nb
  have n2_11 : b2 ≠ b11 := fun e => by have h2 := nw.na; rw [← e, k2] at h2; cases h2
  have n2_12 : b2 ≠ b12 := fun e => by have h2 := nw.nb; rw [← e, k2] at h2; cases h2
  have n3_11 : b3 ≠ b11 := fun e => by have h2 := nw.na; rw [← e, k3] at h2; cases h2
  have n3_12 : b3 ≠ b12 := fun e => by have h2 := nw.nb; rw [← e, k3] at h2; cases h2
  have n5_11 : b5 ≠ b11 := fun e => by have h2 := nw.na; rw [← e, k5] at h2; cases h2
  have n5_12 : b5 ≠ b12 := fun e => by have h2 := nw.nb; rw [← e, k5] at h2; cases h2
  have n6_11 : b6 ≠ b11 := fun e => by have h2 := nw.na; rw [← e, k6] at h2; cases h2
  have n6_12 : b6 ≠ b12 := fun e => by have h2 := nw.nb; rw [← e, k6] at h2; cases h2
  have n7_11 : b7 ≠ b11 := fun e => by have h2 := nw.na; rw [← e, k7] at h2; cases h2
  have n7_12 : b7 ≠ b12 := fun e => by have h2 := nw.nb; rw [← e, k7] at h2; cases h2
  have hnone : ∀ b, Sn.box b = none → S.box b = none := fun b hb => by
    cases hq : S.box b with
    | none => rfl
    | some cs => rw [hle.box b cs hq] at hb; cases hb
  have s11 := hnone _ nw.na
  have s12 := hnone _ nw.nb
  replace hle := hle.trans nw.le
  replace k2 := nw.le.box _ _ k2
  replace k3 := nw.le.box _ _ k3
  replace k5 := nw.le.box _ _ k5
  replace k6 := nw.le.box _ _ k6
  replace k7 := nw.le.box _ _ k7
  replace RA := RA.le nw.le
  replace RB := RB.le nw.le
  have k11 := nw.ka
  have k12 := nw.kb
  have n11_12 := nw.ab
  clear nw hnone
  have hst : Sto Sw Sw b11 b12 b12 := fun d cs hd _ _ _ => hd
  have t1 : ∀ c, ((n.keys.map sL).take c) = (n.keys.take c).map sL := fun c => (List.map_take ..).symm
  repeat (first | refine LOps.valH (LVal.load hD rfl rfl k11 rfl rfl) ?_ | refine LOps.nil ?_ | refine andThen_normal ?_ | refine andThen_exit ?_ | refine andThen_ret ?_ | refine inBlock_normal ?_ | refine inBlock_ret ?_ | refine inBlock_here ?_ | refine inBlock_out rfl ?_ | refine LWp.seq ?_ | refine LWp.region ?_ | refine LWp.block ?_ | refine LWp.exit ?_ | refine LWp.ret ?_ | refine LWp.skip ?_ | refine LOps.valA ?_ | refine LOps.outA ?_ | refine LOps.whenA ?_ | refine LOps.pickA ?_)
  refine LOps.storeA (b := b11) (off := 1) (cs := ndL n) (l := [.sl .sh ((n.keys.take m).map sL)]) ?_
  refine LOps.gen (fun S' => S.le S' ∧ S'.box b2 = some (ndL n) ∧ S'.box b3 = some (hdL next) ∧ S'.box b11 = some (ndL { n with keys := n.keys.take m }) ∧ S'.box b12 = some (ndL n) ∧ Sto Sw S' b11 b12 b12) ⟨hle.setBox s11 _, (box_set_ne _ _ n2_11).trans k2, (box_set_ne _ _ n3_11).trans k3, box_set _ _ _, (box_set_ne _ _ n11_12.symm).trans k12, fun d cs hd h1 h2 h3 => (box_set_ne _ _ h1).trans (hst d cs hd h1 h2 h3)⟩ ?_
  clear hle k2 k3 k11 k12 hst
  rintro Se ⟨hle, k2, k3, k11, k12, hst⟩
  repeat (first | (refine LWp.seq (LWp.cut 13 (fun T' S' => S.le S' ∧ S'.box b2 = some (ndL n) ∧ S'.box b3 = some (hdL next) ∧ S'.box b11 = some (ndL (preX n m)) ∧ S'.box b12 = some (ndL b) ∧ Sto Sw S' b11 b12 b12 ∧ ∃ (T'' : Nat → TV), T' = over T'' [(2, ptr b2), (3, ptr b3), (5, ptr b5), (6, ptr b6), (7, ptr b7), (8, .one (sv n.keys[m])), (10, .one (iv (m : Nat))), (11, ptr b11), (12, ptr b12)]) rfl ?_ ?_); rotate_left) | refine LOps.nil ?_ | refine andThen_normal ?_ | refine andThen_exit ?_ | refine andThen_ret ?_ | refine inBlock_normal ?_ | refine inBlock_ret ?_ | refine inBlock_here ?_ | refine inBlock_out rfl ?_ | refine LWp.seq ?_ | refine LWp.region ?_ | refine LWp.block ?_ | refine LWp.exit ?_ | refine LWp.ret ?_ | refine LWp.skip ?_ | refine LOps.valA ?_ | refine LOps.outA ?_ | refine LOps.whenA ?_ | refine LOps.pickA ?_ | refine LOps.storeA ?_)
  rotate_left
  · repeat (first | refine LOps.nil ?_ | refine andThen_normal ?_ | refine andThen_exit ?_ | refine andThen_ret ?_ | refine inBlock_normal ?_ | refine inBlock_ret ?_ | refine inBlock_here ?_ | refine inBlock_out rfl ?_ | refine LWp.seq ?_ | refine LWp.region ?_ | refine LWp.block ?_ | refine LWp.exit ?_ | refine LWp.ret ?_ | refine LWp.skip ?_ | refine LOps.valA ?_ | refine LOps.outA ?_ | refine LOps.whenA ?_ | refine LOps.pickA ?_ | refine LOps.storeA ?_)
    refine LWp.cond rfl (fun hl => ?_) (fun hl => ?_)
    · have hl : n.leaf = true := hl
      obtain ⟨hvl, hkd⟩ := rightN_leaf hr hl
      rw [if_pos hl] at eb
      have ep : preX n m = { n with keys := n.keys.take m, vals := n.vals.take m } := by unfold preX; rw [if_pos hl]
      repeat (first | refine LOps.valH (LVal.load hD rfl rfl k11 rfl rfl) ?_ | refine LOps.valH (LVal.takeMap (n := m) hD rfl rfl rfl rfl rfl rfl (by show m ≤ n.vals.length; omega) rfl (fun _ _ => rfl)) ?_ | refine LOps.nil ?_ | refine andThen_normal ?_ | refine andThen_exit ?_ | refine andThen_ret ?_ | refine inBlock_normal ?_ | refine inBlock_ret ?_ | refine inBlock_here ?_ | refine inBlock_out rfl ?_ | refine LWp.seq ?_ | refine LWp.region ?_ | refine LWp.block ?_ | refine LWp.exit ?_ | refine LWp.ret ?_ | refine LWp.skip ?_ | refine LOps.valA ?_ | refine LOps.outA ?_ | refine LOps.whenA ?_ | refine LOps.pickA ?_)
      refine LOps.storeA (b := b11) (off := 2) (cs := ndL { n with keys := n.keys.take m }) (l := [.sl .sh ((n.vals.take m).map sL)]) ?_
      refine LOps.gen (fun S' => S.le S' ∧ S'.box b2 = some (ndL n) ∧ S'.box b3 = some (hdL next) ∧ S'.box b11 = some (ndL { n with keys := n.keys.take m, vals := n.vals.take m }) ∧ S'.box b12 = some (ndL n) ∧ Sto Sw S' b11 b12 b12) ⟨hle.setBox s11 _, (box_set_ne _ _ n2_11).trans k2, (box_set_ne _ _ n3_11).trans k3, box_set _ _ _, (box_set_ne _ _ n11_12.symm).trans k12, fun d cs hd h1 h2 h3 => (box_set_ne _ _ h1).trans (hst d cs hd h1 h2 h3)⟩ ?_
      clear hle k2 k3 k11 k12 hst
      rintro Se ⟨hle, k2, k3, k11, k12, hst⟩
      repeat (first | refine LOps.valH (LVal.load hD rfl rfl k12 rfl rfl) ?_ | refine LOps.valH (LVal.dropMap (m := m) hD rfl rfl rfl rfl rfl rfl (by omega) rfl (fun _ _ => rfl)) ?_ | refine LOps.nil ?_ | refine andThen_normal ?_ | refine andThen_exit ?_ | refine andThen_ret ?_ | refine inBlock_normal ?_ | refine inBlock_ret ?_ | refine inBlock_here ?_ | refine inBlock_out rfl ?_ | refine LWp.seq ?_ | refine LWp.region ?_ | refine LWp.block ?_ | refine LWp.exit ?_ | refine LWp.ret ?_ | refine LWp.skip ?_ | refine LOps.valA ?_ | refine LOps.outA ?_ | refine LOps.whenA ?_ | refine LOps.pickA ?_)
      refine LOps.storeA (b := b12) (off := 1) (cs := ndL n) (l := [.sl .sh ((n.keys.drop m).map sL)]) ?_
      refine LOps.gen (fun S' => S.le S' ∧ S'.box b2 = some (ndL n) ∧ S'.box b3 = some (hdL next) ∧ S'.box b11 = some (ndL { n with keys := n.keys.take m, vals := n.vals.take m }) ∧ S'.box b12 = some (ndL { n with keys := n.keys.drop m }) ∧ Sto Sw S' b11 b12 b12) ⟨hle.setBox s12 _, (box_set_ne _ _ n2_12).trans k2, (box_set_ne _ _ n3_12).trans k3, (box_set_ne _ _ n11_12).trans k11, box_set _ _ _, fun d cs hd h1 h2 h3 => (box_set_ne _ _ h2).trans (hst d cs hd h1 h2 h3)⟩ ?_
      clear hle k2 k3 k11 k12 hst
      rintro Se ⟨hle, k2, k3, k11, k12, hst⟩
      repeat (first | refine LOps.valH (LVal.load hD rfl rfl k12 rfl rfl) ?_ | refine LOps.valH (LVal.dropMap (m := m) hD rfl rfl rfl rfl rfl rfl (by show m ≤ n.vals.length; omega) rfl (fun _ _ => rfl)) ?_ | refine LOps.nil ?_ | refine andThen_normal ?_ | refine andThen_exit ?_ | refine andThen_ret ?_ | refine inBlock_normal ?_ | refine inBlock_ret ?_ | refine inBlock_here ?_ | refine inBlock_out rfl ?_ | refine LWp.seq ?_ | refine LWp.region ?_ | refine LWp.block ?_ | refine LWp.exit ?_ | refine LWp.ret ?_ | refine LWp.skip ?_ | refine LOps.valA ?_ | refine LOps.outA ?_ | refine LOps.whenA ?_ | refine LOps.pickA ?_)
      refine LOps.storeA (b := b12) (off := 2) (cs := ndL { n with keys := n.keys.drop m }) (l := [.sl .sh ((n.vals.drop m).map sL)]) ?_
      refine LOps.gen (fun S' => S.le S' ∧ S'.box b2 = some (ndL n) ∧ S'.box b3 = some (hdL next) ∧ S'.box b11 = some (ndL { n with keys := n.keys.take m, vals := n.vals.take m }) ∧ S'.box b12 = some (ndL (n.upL m)) ∧ Sto Sw S' b11 b12 b12) ⟨hle.setBox s12 _, (box_set_ne _ _ n2_12).trans k2, (box_set_ne _ _ n3_12).trans k3, (box_set_ne _ _ n11_12).trans k11, box_set _ _ _, fun d cs hd h1 h2 h3 => (box_set_ne _ _ h2).trans (hst d cs hd h1 h2 h3)⟩ ?_
      clear hle k2 k3 k11 k12 hst
      rintro Se ⟨hle, k2, k3, k11, k12, hst⟩
      repeat (first | refine LOps.nil ?_ | refine andThen_normal ?_ | refine andThen_exit ?_ | refine andThen_ret ?_ | refine inBlock_normal ?_ | refine inBlock_ret ?_ | refine inBlock_here ?_ | refine inBlock_out rfl ?_ | refine LWp.seq ?_ | refine LWp.region ?_ | refine LWp.block ?_ | refine LWp.exit ?_ | refine LWp.ret ?_ | refine LWp.skip ?_ | refine LOps.valA ?_ | refine LOps.outA ?_ | refine LOps.whenA ?_ | refine LOps.pickA ?_ | refine LOps.storeA ?_)
      exact ⟨hle, k2, k3, by rw [ep]; exact k11, by rw [eb]; exact k12, hst, _, holds.over ⟨rfl, rfl, rfl, rfl, rfl, rfl, rfl, rfl, rfl, trivial⟩⟩
    · have hl : n.leaf = false := hl
      obtain ⟨hvl, hkd⟩ := rightN_inner hr hl
      rw [if_neg (by rw [hl]; decide)] at eb
      have ep : preX n m = { n with keys := n.keys.take m, kids := n.kids.take (m + 1) } := by unfold preX; rw [if_neg (by rw [hl]; decide)]
      repeat (first | refine LOps.valH (LVal.load hD rfl rfl k11 rfl rfl) ?_ | refine LOps.valH (LVal.to (LVal.add64 rfl rfl rfl (by omega)) (r' := .one (iv ((m + 1 : Nat) : Int))) (by exact congrArg (fun x => TV.one (iv x)) (by omega))) ?_ | refine LOps.valH (LVal.takeMap (n := m + 1) hD rfl rfl rfl rfl rfl rfl (by show m + 1 ≤ n.kids.length; omega) rfl (fun _ _ => rfl)) ?_ | refine LOps.nil ?_ | refine andThen_normal ?_ | refine andThen_exit ?_ | refine andThen_ret ?_ | refine inBlock_normal ?_ | refine inBlock_ret ?_ | refine inBlock_here ?_ | refine inBlock_out rfl ?_ | refine LWp.seq ?_ | refine LWp.region ?_ | refine LWp.block ?_ | refine LWp.exit ?_ | refine LWp.ret ?_ | refine LWp.skip ?_ | refine LOps.valA ?_ | refine LOps.outA ?_ | refine LOps.whenA ?_ | refine LOps.pickA ?_)
      refine LOps.storeA (b := b11) (off := 3) (cs := ndL { n with keys := n.keys.take m }) (l := [.sl .sh ((n.kids.take (m + 1)).map hdL)]) ?_
      refine LOps.gen (fun S' => S.le S' ∧ S'.box b2 = some (ndL n) ∧ S'.box b3 = some (hdL next) ∧ S'.box b11 = some (ndL { n with keys := n.keys.take m, kids := n.kids.take (m + 1) }) ∧ S'.box b12 = some (ndL n) ∧ Sto Sw S' b11 b12 b12) ⟨hle.setBox s11 _, (box_set_ne _ _ n2_11).trans k2, (box_set_ne _ _ n3_11).trans k3, box_set _ _ _, (box_set_ne _ _ n11_12.symm).trans k12, fun d cs hd h1 h2 h3 => (box_set_ne _ _ h1).trans (hst d cs hd h1 h2 h3)⟩ ?_
      clear hle k2 k3 k11 k12 hst
      rintro Se ⟨hle, k2, k3, k11, k12, hst⟩
      repeat (first | refine LOps.valH (LVal.load hD rfl rfl k12 rfl rfl) ?_ | refine LOps.valH (LVal.to (LVal.add64 rfl rfl rfl (by omega)) (r' := .one (iv ((m + 1 : Nat) : Int))) (by exact congrArg (fun x => TV.one (iv x)) (by omega))) ?_ | refine LOps.valH (LVal.dropMap (m := m + 1) hD rfl rfl rfl rfl rfl rfl (by omega) rfl (fun _ _ => rfl)) ?_ | refine LOps.nil ?_ | refine andThen_normal ?_ | refine andThen_exit ?_ | refine andThen_ret ?_ | refine inBlock_normal ?_ | refine inBlock_ret ?_ | refine inBlock_here ?_ | refine inBlock_out rfl ?_ | refine LWp.seq ?_ | refine LWp.region ?_ | refine LWp.block ?_ | refine LWp.exit ?_ | refine LWp.ret ?_ | refine LWp.skip ?_ | refine LOps.valA ?_ | refine LOps.outA ?_ | refine LOps.whenA ?_ | refine LOps.pickA ?_)
      refine LOps.storeA (b := b12) (off := 1) (cs := ndL n) (l := [.sl .sh ((n.keys.drop (m + 1)).map sL)]) ?_
      refine LOps.gen (fun S' => S.le S' ∧ S'.box b2 = some (ndL n) ∧ S'.box b3 = some (hdL next) ∧ S'.box b11 = some (ndL { n with keys := n.keys.take m, kids := n.kids.take (m + 1) }) ∧ S'.box b12 = some (ndL { n with keys := n.keys.drop (m + 1) }) ∧ Sto Sw S' b11 b12 b12) ⟨hle.setBox s12 _, (box_set_ne _ _ n2_12).trans k2, (box_set_ne _ _ n3_12).trans k3, (box_set_ne _ _ n11_12).trans k11, box_set _ _ _, fun d cs hd h1 h2 h3 => (box_set_ne _ _ h2).trans (hst d cs hd h1 h2 h3)⟩ ?_
      clear hle k2 k3 k11 k12 hst
      rintro Se ⟨hle, k2, k3, k11, k12, hst⟩
      repeat (first | refine LOps.valH (LVal.load hD rfl rfl k12 rfl rfl) ?_ | refine LOps.valH (LVal.to (LVal.add64 rfl rfl rfl (by omega)) (r' := .one (iv ((m + 1 : Nat) : Int))) (by exact congrArg (fun x => TV.one (iv x)) (by omega))) ?_ | refine LOps.valH (LVal.dropMap (m := m + 1) hD rfl rfl rfl rfl rfl rfl (by show m + 1 ≤ n.kids.length; omega) rfl (fun _ _ => rfl)) ?_ | refine LOps.nil ?_ | refine andThen_normal ?_ | refine andThen_exit ?_ | refine andThen_ret ?_ | refine inBlock_normal ?_ | refine inBlock_ret ?_ | refine inBlock_here ?_ | refine inBlock_out rfl ?_ | refine LWp.seq ?_ | refine LWp.region ?_ | refine LWp.block ?_ | refine LWp.exit ?_ | refine LWp.ret ?_ | refine LWp.skip ?_ | refine LOps.valA ?_ | refine LOps.outA ?_ | refine LOps.whenA ?_ | refine LOps.pickA ?_)
      refine LOps.storeA (b := b12) (off := 3) (cs := ndL { n with keys := n.keys.drop (m + 1) }) (l := [.sl .sh ((n.kids.drop (m + 1)).map hdL)]) ?_
      refine LOps.gen (fun S' => S.le S' ∧ S'.box b2 = some (ndL n) ∧ S'.box b3 = some (hdL next) ∧ S'.box b11 = some (ndL { n with keys := n.keys.take m, kids := n.kids.take (m + 1) }) ∧ S'.box b12 = some (ndL (n.upI m)) ∧ Sto Sw S' b11 b12 b12) ⟨hle.setBox s12 _, (box_set_ne _ _ n2_12).trans k2, (box_set_ne _ _ n3_12).trans k3, (box_set_ne _ _ n11_12).trans k11, box_set _ _ _, fun d cs hd h1 h2 h3 => (box_set_ne _ _ h2).trans (hst d cs hd h1 h2 h3)⟩ ?_
      clear hle k2 k3 k11 k12 hst
      rintro Se ⟨hle, k2, k3, k11, k12, hst⟩
      repeat (first | refine LOps.nil ?_ | refine andThen_normal ?_ | refine andThen_exit ?_ | refine andThen_ret ?_ | refine inBlock_normal ?_ | refine inBlock_ret ?_ | refine inBlock_here ?_ | refine inBlock_out rfl ?_ | refine LWp.seq ?_ | refine LWp.region ?_ | refine LWp.block ?_ | refine LWp.exit ?_ | refine LWp.ret ?_ | refine LWp.skip ?_ | refine LOps.valA ?_ | refine LOps.outA ?_ | refine LOps.whenA ?_ | refine LOps.pickA ?_ | refine LOps.storeA ?_)
      exact ⟨hle, k2, k3, by rw [ep]; exact k11, by rw [eb]; exact k12, hst, _, holds.over ⟨rfl, rfl, rfl, rfl, rfl, rfl, rfl, rfl, rfl, trivial⟩⟩
  have kw5 := k5
  clear hle k2 k3 k11 k12 hst
  rintro _ Sx ⟨hle, k2, k3, k11, k12, hst, T13, rfl⟩
  generalize preX n m = x0 at *
  repeat (first | refine LOps.valH (LVal.load hD rfl rfl k2 rfl rfl) ?_ | refine LOps.nil ?_ | refine andThen_normal ?_ | refine andThen_exit ?_ | refine andThen_ret ?_ | refine inBlock_normal ?_ | refine inBlock_ret ?_ | refine inBlock_here ?_ | refine inBlock_out rfl ?_ | refine LWp.seq ?_ | refine LWp.region ?_ | refine LWp.block ?_ | refine LWp.exit ?_ | refine LWp.ret ?_ | refine LWp.skip ?_ | refine LOps.valA ?_ | refine LOps.outA ?_ | refine LOps.whenA ?_ | refine LOps.pickA ?_)
  refine LOps.storeA (b := b11) (off := 4) (cs := ndL x0) (l := [sv n.keys[m]]) ?_
  refine LOps.gen (fun S' => S.le S' ∧ S'.box b2 = some (ndL n) ∧ S'.box b3 = some (hdL next) ∧ S'.box b11 = some (ndL { x0 with high := n.keys[m] }) ∧ S'.box b12 = some (ndL b) ∧ Sto Sw S' b11 b12 b12) ⟨hle.setBox s11 _, (box_set_ne _ _ n2_11).trans k2, (box_set_ne _ _ n3_11).trans k3, box_set _ _ _, (box_set_ne _ _ n11_12.symm).trans k12, fun d cs hd h1 h2 h3 => (box_set_ne _ _ h1).trans (hst d cs hd h1 h2 h3)⟩ ?_
  clear hle k2 k3 k11 k12 hst
  rintro Se ⟨hle, k2, k3, k11, k12, hst⟩
  repeat (first | refine LOps.nil ?_ | refine andThen_normal ?_ | refine andThen_exit ?_ | refine andThen_ret ?_ | refine inBlock_normal ?_ | refine inBlock_ret ?_ | refine inBlock_here ?_ | refine inBlock_out rfl ?_ | refine LWp.seq ?_ | refine LWp.region ?_ | refine LWp.block ?_ | refine LWp.exit ?_ | refine LWp.ret ?_ | refine LWp.skip ?_ | refine LOps.valA ?_ | refine LOps.outA ?_ | refine LOps.whenA ?_ | refine LOps.pickA ?_)
  refine LOps.storeA (b := b11) (off := 5) (cs := ndL { x0 with high := n.keys[m] }) (l := [bv true]) ?_
  refine LOps.gen (fun S' => S.le S' ∧ S'.box b2 = some (ndL n) ∧ S'.box b3 = some (hdL next) ∧ S'.box b11 = some (ndL { x0 with high := n.keys[m], bounded := true }) ∧ S'.box b12 = some (ndL b) ∧ Sto Sw S' b11 b12 b12) ⟨hle.setBox s11 _, (box_set_ne _ _ n2_11).trans k2, (box_set_ne _ _ n3_11).trans k3, box_set _ _ _, (box_set_ne _ _ n11_12.symm).trans k12, fun d cs hd h1 h2 h3 => (box_set_ne _ _ h1).trans (hst d cs hd h1 h2 h3)⟩ ?_
  clear hle k2 k3 k11 k12 hst
  rintro Se ⟨hle, k2, k3, k11, k12, hst⟩
  repeat (first | refine LOps.valH (LVal.load hD rfl rfl k3 rfl rfl) ?_ | refine LOps.nil ?_ | refine andThen_normal ?_ | refine andThen_exit ?_ | refine andThen_ret ?_ | refine inBlock_normal ?_ | refine inBlock_ret ?_ | refine inBlock_here ?_ | refine inBlock_out rfl ?_ | refine LWp.seq ?_ | refine LWp.region ?_ | refine LWp.block ?_ | refine LWp.exit ?_ | refine LWp.ret ?_ | refine LWp.skip ?_ | refine LOps.valA ?_ | refine LOps.outA ?_ | refine LOps.whenA ?_ | refine LOps.pickA ?_)
  refine LOps.storeA (b := b11) (off := 6) (cs := ndL { x0 with high := n.keys[m], bounded := true }) (l := hdL next) ?_
  refine LOps.gen (fun S' => S.le S' ∧ S'.box b2 = some (ndL n) ∧ S'.box b11 = some (ndL a) ∧ S'.box b12 = some (ndL b) ∧ Sto Sw S' b11 b12 b12) ⟨hle.setBox s11 _, (box_set_ne _ _ n2_11).trans k2, (box_set _ _ _).trans (by rw [ea]; rfl), (box_set_ne _ _ n11_12.symm).trans k12, fun d cs hd h1 h2 h3 => (box_set_ne _ _ h1).trans (hst d cs hd h1 h2 h3)⟩ ?_
  clear hle k2 k3 k11 k12 hst
  rintro Sy ⟨hle, k2, k11, k12, hst⟩
  replace k5 := hst _ _ k5 n5_11 n5_12 n5_12
  replace k6 := hst _ _ k6 n6_11 n6_12 n6_12
  replace k7 := hst _ _ k7 n7_11 n7_12 n7_12
  have hkeep : ∀ {X Y Z : LV} {d : Nat}, Off X Y Z b11 → Off X Y Z b12 → blockOf X = some d ∨ blockOf Y = some d ∨ blockOf Z = some d → d ≠ b11 ∧ d ≠ b12 := fun {X Y Z d} h1 h2 hd => ⟨fun e => by
    subst e
    rcases hd with h | h | h
    · exact h1.1 h
    · exact h1.2.1 h
    · exact h1.2.2 h, fun e => by
    subst e
    rcases hd with h | h | h
    · exact h2.1 h
    · exact h2.2.1 h
    · exact h2.2.2 h⟩
  replace RA := RA.keep fun d cs hd hx => hst d cs hd (hkeep offa11 offa12 hx).1 (hkeep offa11 offa12 hx).2 (hkeep offa11 offa12 hx).2
  replace RB := RB.keep fun d cs hd hx => hst d cs hd (hkeep offb11 offb12 hx).1 (hkeep offb11 offb12 hx).2 (hkeep offb11 offb12 hx).2
  clear hst hkeep kw5
  repeat (first | refine LOps.valH (LVal.load hD rfl rfl k2 rfl rfl) ?_ | refine LOps.whenC (LVal.load hD rfl rfl k6 rfl rfl) ?_ | refine LOps.whenC (LVal.load hD rfl rfl k11 rfl rfl) ?_ | refine LOps.whenC (LVal.load hD rfl rfl k7 rfl rfl) ?_ | refine LOps.whenC (LVal.load hD rfl rfl k12 rfl rfl) ?_ | refine LOps.whenC (LVal.callAny (fun G' e => equal_F (e.trans hP) a a oka) rfl rfl (by rw [hP]; exact Try.func22) rfl (by decide) ⟨.agg RA.views, .agg (nd_views _ _), trivial⟩) ?_ | refine LOps.whenC (LVal.callAny (fun G' e => equal_F (e.trans hP) b b okb) rfl rfl (by rw [hP]; exact Try.func22) rfl (by decide) ⟨.agg RB.views, .agg (nd_views _ _), trivial⟩) ?_ | refine LOps.nil ?_ | refine andThen_normal ?_ | refine andThen_exit ?_ | refine andThen_ret ?_ | refine inBlock_normal ?_ | refine inBlock_ret ?_ | refine inBlock_here ?_ | refine inBlock_out rfl ?_ | refine LWp.seq ?_ | refine LWp.region ?_ | refine LWp.block ?_ | refine LWp.exit ?_ | refine LWp.ret ?_ | refine LWp.skip ?_ | refine LOps.valA ?_ | refine LOps.outA ?_ | refine LOps.whenA ?_ | refine LOps.pickA ?_ | refine LOps.storeA ?_)
  refine LWp.cond rfl (fun hx => ?_) (fun hx => ?_)
  · exfalso; simp at hx
  clear hx
  refine LWp.slots [(2, ptr b2), (5, ptr b5), (6, ptr b6), (7, ptr b7), (11, ptr b11), (12, ptr b12)] ⟨rfl, rfl, rfl, rfl, rfl, rfl, trivial⟩ fun T25 => ?_
  have apx : ∀ c, blockOf XB = some c ∨ blockOf YB = some c ∨ blockOf ZB = some c → blockOf XA ≠ some c := fun c hx => (apt.symm c hx).1
  have apy : ∀ c, blockOf XB = some c ∨ blockOf YB = some c ∨ blockOf ZB = some c → blockOf YA ≠ some c := fun c hx => (apt.symm c hx).2.1
  have apz : ∀ c, blockOf XB = some c ∨ blockOf YB = some c ∨ blockOf ZB = some c → blockOf ZA ≠ some c := fun c hx => (apt.symm c hx).2.2
  repeat (first | refine LOps.valH (LVal.load hD rfl rfl k6 rfl rfl) ?_ | refine LOps.nil ?_ | refine andThen_normal ?_ | refine andThen_exit ?_ | refine andThen_ret ?_ | refine inBlock_normal ?_ | refine inBlock_ret ?_ | refine inBlock_here ?_ | refine inBlock_out rfl ?_ | refine LWp.seq ?_ | refine LWp.region ?_ | refine LWp.block ?_ | refine LWp.exit ?_ | refine LWp.ret ?_ | refine LWp.skip ?_ | refine LOps.valA ?_ | refine LOps.outA ?_ | refine LOps.whenA ?_ | refine LOps.pickA ?_)
  refine LOps.do (LDo.pushPt (f := sL) (v := (⟨#[109, 111, 114, 101]⟩ : ByteArray)) hD sL_len rfl rfl rfl rfl rfl rfl rfl rfl rfl rfl rfl RA.x (by have := hlk.1; show a.keys.length ≤ 90000000; omega)) rfl rfl rfl ?_
  rintro _ Sp ⟨XN, rfl, hp, mv⟩
  obtain ⟨RA2, hle2⟩ := RA.setX hle hp mv
  obtain ⟨RB2, ap2⟩ := RB.beside mv apx
  obtain ⟨q2, o2⟩ := mv.box b2 _ k2 offa2.1
  obtain ⟨q5, o5⟩ := mv.box b5 _ k5 offa5.1
  obtain ⟨q6, o6⟩ := mv.box b6 _ k6 offa6.1
  obtain ⟨q7, o7⟩ := mv.box b7 _ k7 offa7.1
  obtain ⟨q11, o11⟩ := mv.box b11 _ k11 offa11.1
  obtain ⟨q12, o12⟩ := mv.box b12 _ k12 offa12.1
  replace offa2 : Off XN YA ZA b2 := ⟨o2, offa2.2⟩
  replace offa5 : Off XN YA ZA b5 := ⟨o5, offa5.2⟩
  replace offa6 : Off XN YA ZA b6 := ⟨o6, offa6.2⟩
  replace offa7 : Off XN YA ZA b7 := ⟨o7, offa7.2⟩
  replace offa11 : Off XN YA ZA b11 := ⟨o11, offa11.2⟩
  replace offa12 : Off XN YA ZA b12 := ⟨o12, offa12.2⟩
  replace apx := ap2
  repeat (first | refine LOps.nil ?_ | refine andThen_normal ?_ | refine andThen_exit ?_ | refine andThen_ret ?_ | refine inBlock_normal ?_ | refine inBlock_ret ?_ | refine inBlock_here ?_ | refine inBlock_out rfl ?_ | refine LWp.seq ?_ | refine LWp.region ?_ | refine LWp.block ?_ | refine LWp.exit ?_ | refine LWp.ret ?_ | refine LWp.skip ?_ | refine LOps.valA ?_ | refine LOps.outA ?_ | refine LOps.whenA ?_ | refine LOps.pickA ?_)
  refine LOps.storeA (b := b6) (off := 1) (cs := ndX a XA YA ZA) (l := [XN]) ?_
  refine LOps.gen (fun S' => S.le S' ∧ S'.box b2 = some (ndL n) ∧ S'.box b5 = some (ndL n) ∧ S'.box b6 = some (ndX a XN YA ZA) ∧ S'.box b7 = some (ndX b XB YB ZB) ∧ S'.box b11 = some (ndL a) ∧ S'.box b12 = some (ndL b) ∧ Rwp S S' ({ a with keys := a.keys ++ [(⟨#[109, 111, 114, 101]⟩ : ByteArray)] }) XN YA ZA ∧ Rwp S S' b XB YB ZB) ⟨hle2.setBox s6 _, (box_set_ne _ _ n2_6).trans q2, (box_set_ne _ _ n5_6).trans q5, box_set _ _ _, (box_set_ne _ _ n6_7.symm).trans q7, (box_set_ne _ _ n6_11.symm).trans q11, (box_set_ne _ _ n6_12.symm).trans q12, RA2.set offa6 _, RB2.set offb6 _⟩ ?_
  clear hle hle2 k2 k5 k6 k7 k11 k12 q2 q5 q6 q7 q11 q12 o2 o5 o6 o7 o11 o12 RA RB RA2 RB2 mv hp ap2
  rintro Sq ⟨hle, k2, k5, k6, k7, k11, k12, RA, RB⟩
  repeat (first | refine LOps.valH (LVal.load hD rfl rfl k6 rfl rfl) ?_ | refine LOps.nil ?_ | refine andThen_normal ?_ | refine andThen_exit ?_ | refine andThen_ret ?_ | refine inBlock_normal ?_ | refine inBlock_ret ?_ | refine inBlock_here ?_ | refine inBlock_out rfl ?_ | refine LWp.seq ?_ | refine LWp.region ?_ | refine LWp.block ?_ | refine LWp.exit ?_ | refine LWp.ret ?_ | refine LWp.skip ?_ | refine LOps.valA ?_ | refine LOps.outA ?_ | refine LOps.whenA ?_ | refine LOps.pickA ?_)
  refine LOps.do (LDo.pushPt (f := sL) (v := (⟨#[109, 111, 114, 101]⟩ : ByteArray)) hD sL_len rfl rfl rfl rfl rfl rfl rfl rfl rfl rfl rfl RA.y (by have := hlk.2.1; show a.vals.length ≤ 90000000; omega)) rfl rfl rfl ?_
  rintro _ Sp ⟨YN, rfl, hp, mv⟩
  obtain ⟨RA2, hle2⟩ := RA.setY hle hp mv
  obtain ⟨RB2, ap2⟩ := RB.beside mv apy
  obtain ⟨q2, o2⟩ := mv.box b2 _ k2 offa2.2.1
  obtain ⟨q5, o5⟩ := mv.box b5 _ k5 offa5.2.1
  obtain ⟨q6, o6⟩ := mv.box b6 _ k6 offa6.2.1
  obtain ⟨q7, o7⟩ := mv.box b7 _ k7 offa7.2.1
  obtain ⟨q11, o11⟩ := mv.box b11 _ k11 offa11.2.1
  obtain ⟨q12, o12⟩ := mv.box b12 _ k12 offa12.2.1
  replace offa2 : Off XN YN ZA b2 := ⟨offa2.1, o2, offa2.2.2⟩
  replace offa5 : Off XN YN ZA b5 := ⟨offa5.1, o5, offa5.2.2⟩
  replace offa6 : Off XN YN ZA b6 := ⟨offa6.1, o6, offa6.2.2⟩
  replace offa7 : Off XN YN ZA b7 := ⟨offa7.1, o7, offa7.2.2⟩
  replace offa11 : Off XN YN ZA b11 := ⟨offa11.1, o11, offa11.2.2⟩
  replace offa12 : Off XN YN ZA b12 := ⟨offa12.1, o12, offa12.2.2⟩
  replace apy := ap2
  repeat (first | refine LOps.nil ?_ | refine andThen_normal ?_ | refine andThen_exit ?_ | refine andThen_ret ?_ | refine inBlock_normal ?_ | refine inBlock_ret ?_ | refine inBlock_here ?_ | refine inBlock_out rfl ?_ | refine LWp.seq ?_ | refine LWp.region ?_ | refine LWp.block ?_ | refine LWp.exit ?_ | refine LWp.ret ?_ | refine LWp.skip ?_ | refine LOps.valA ?_ | refine LOps.outA ?_ | refine LOps.whenA ?_ | refine LOps.pickA ?_)
  refine LOps.storeA (b := b6) (off := 2) (cs := ndX a XN YA ZA) (l := [YN]) ?_
  refine LOps.gen (fun S' => S.le S' ∧ S'.box b2 = some (ndL n) ∧ S'.box b5 = some (ndL n) ∧ S'.box b6 = some (ndX a XN YN ZA) ∧ S'.box b7 = some (ndX b XB YB ZB) ∧ S'.box b11 = some (ndL a) ∧ S'.box b12 = some (ndL b) ∧ Rwp S S' ({ a with keys := a.keys ++ [(⟨#[109, 111, 114, 101]⟩ : ByteArray)], vals := a.vals ++ [(⟨#[109, 111, 114, 101]⟩ : ByteArray)] }) XN YN ZA ∧ Rwp S S' b XB YB ZB) ⟨hle2.setBox s6 _, (box_set_ne _ _ n2_6).trans q2, (box_set_ne _ _ n5_6).trans q5, box_set _ _ _, (box_set_ne _ _ n6_7.symm).trans q7, (box_set_ne _ _ n6_11.symm).trans q11, (box_set_ne _ _ n6_12.symm).trans q12, RA2.set offa6 _, RB2.set offb6 _⟩ ?_
  clear hle hle2 k2 k5 k6 k7 k11 k12 q2 q5 q6 q7 q11 q12 o2 o5 o6 o7 o11 o12 RA RB RA2 RB2 mv hp ap2
  rintro Sq ⟨hle, k2, k5, k6, k7, k11, k12, RA, RB⟩
  repeat (first | refine LOps.valH (LVal.load hD rfl rfl k6 rfl rfl) ?_ | refine LOps.val (r := .agg (hdL ⟨9, 9⟩)) (LVal.to (LVal.build hD rfl rfl rfl rfl rfl rfl rfl) rfl) rfl rfl rfl ?_ | refine LOps.nil ?_ | refine andThen_normal ?_ | refine andThen_exit ?_ | refine andThen_ret ?_ | refine inBlock_normal ?_ | refine inBlock_ret ?_ | refine inBlock_here ?_ | refine inBlock_out rfl ?_ | refine LWp.seq ?_ | refine LWp.region ?_ | refine LWp.block ?_ | refine LWp.exit ?_ | refine LWp.ret ?_ | refine LWp.skip ?_ | refine LOps.valA ?_ | refine LOps.outA ?_ | refine LOps.whenA ?_ | refine LOps.pickA ?_)
  refine LOps.do (LDo.pushPt (f := hdL) (v := (⟨9, 9⟩ : HdV)) hD hdL_len rfl rfl rfl rfl rfl rfl rfl rfl rfl rfl rfl RA.z (by have := hlk.2.2; show a.kids.length ≤ 90000000; omega)) rfl rfl rfl ?_
  rintro _ Sp ⟨ZN, rfl, hp, mv⟩
  obtain ⟨RA2, hle2⟩ := RA.setZ hle hp mv
  obtain ⟨RB2, ap2⟩ := RB.beside mv apz
  obtain ⟨q2, o2⟩ := mv.box b2 _ k2 offa2.2.2
  obtain ⟨q5, o5⟩ := mv.box b5 _ k5 offa5.2.2
  obtain ⟨q6, o6⟩ := mv.box b6 _ k6 offa6.2.2
  obtain ⟨q7, o7⟩ := mv.box b7 _ k7 offa7.2.2
  obtain ⟨q11, o11⟩ := mv.box b11 _ k11 offa11.2.2
  obtain ⟨q12, o12⟩ := mv.box b12 _ k12 offa12.2.2
  replace offa2 : Off XN YN ZN b2 := ⟨offa2.1, offa2.2.1, o2⟩
  replace offa5 : Off XN YN ZN b5 := ⟨offa5.1, offa5.2.1, o5⟩
  replace offa6 : Off XN YN ZN b6 := ⟨offa6.1, offa6.2.1, o6⟩
  replace offa7 : Off XN YN ZN b7 := ⟨offa7.1, offa7.2.1, o7⟩
  replace offa11 : Off XN YN ZN b11 := ⟨offa11.1, offa11.2.1, o11⟩
  replace offa12 : Off XN YN ZN b12 := ⟨offa12.1, offa12.2.1, o12⟩
  replace apz := ap2
  repeat (first | refine LOps.nil ?_ | refine andThen_normal ?_ | refine andThen_exit ?_ | refine andThen_ret ?_ | refine inBlock_normal ?_ | refine inBlock_ret ?_ | refine inBlock_here ?_ | refine inBlock_out rfl ?_ | refine LWp.seq ?_ | refine LWp.region ?_ | refine LWp.block ?_ | refine LWp.exit ?_ | refine LWp.ret ?_ | refine LWp.skip ?_ | refine LOps.valA ?_ | refine LOps.outA ?_ | refine LOps.whenA ?_ | refine LOps.pickA ?_)
  refine LOps.storeA (b := b6) (off := 3) (cs := ndX a XN YN ZA) (l := [ZN]) ?_
  refine LOps.gen (fun S' => S.le S' ∧ S'.box b2 = some (ndL n) ∧ S'.box b5 = some (ndL n) ∧ S'.box b6 = some (ndX a XN YN ZN) ∧ S'.box b7 = some (ndX b XB YB ZB) ∧ S'.box b11 = some (ndL a) ∧ S'.box b12 = some (ndL b) ∧ Rwp S S' ({ a with keys := a.keys ++ [(⟨#[109, 111, 114, 101]⟩ : ByteArray)], vals := a.vals ++ [(⟨#[109, 111, 114, 101]⟩ : ByteArray)], kids := a.kids ++ [(⟨9, 9⟩ : HdV)] }) XN YN ZN ∧ Rwp S S' b XB YB ZB) ⟨hle2.setBox s6 _, (box_set_ne _ _ n2_6).trans q2, (box_set_ne _ _ n5_6).trans q5, box_set _ _ _, (box_set_ne _ _ n6_7.symm).trans q7, (box_set_ne _ _ n6_11.symm).trans q11, (box_set_ne _ _ n6_12.symm).trans q12, RA2.set offa6 _, RB2.set offb6 _⟩ ?_
  clear hle hle2 k2 k5 k6 k7 k11 k12 q2 q5 q6 q7 q11 q12 o2 o5 o6 o7 o11 o12 RA RB RA2 RB2 mv hp ap2
  rintro Sq ⟨hle, k2, k5, k6, k7, k11, k12, RA, RB⟩
  have apt2 : Apt XN YN ZN XB YB ZB := Apt.symm fun c hx => ⟨apx c hx, apy c hx, apz c hx⟩
  have okc : ({ a with keys := a.keys ++ [(⟨#[109, 111, 114, 101]⟩ : ByteArray)], vals := a.vals ++ [(⟨#[109, 111, 114, 101]⟩ : ByteArray)], kids := a.kids ++ [(⟨9, 9⟩ : HdV)] } : NdV).ok := ⟨by
    show (a.keys ++ [(⟨#[109, 111, 114, 101]⟩ : ByteArray)]).length ≤ 100000
    rw [List.length_append]; have := hlk.1; simp; omega, by
    show (a.vals ++ [(⟨#[109, 111, 114, 101]⟩ : ByteArray)]).length ≤ 100000
    rw [List.length_append]; have := hlk.2.1; simp; omega, by
    show (a.kids ++ [(⟨9, 9⟩ : HdV)]).length ≤ 100000
    rw [List.length_append]; have := hlk.2.2; simp; omega⟩
  repeat (first | refine LOps.valH (LVal.load hD rfl rfl k7 rfl rfl) ?_ | refine LOps.valH (LVal.load hD rfl rfl k12 rfl rfl) ?_ | refine LOps.valH (LVal.callAny (fun G' e => equal_F (e.trans hP) b b okb) rfl rfl (by rw [hP]; exact Try.func22) rfl (by decide) ⟨.agg RB.views, .agg (nd_views _ _), trivial⟩) ?_ | refine LOps.nil ?_ | refine andThen_normal ?_ | refine andThen_exit ?_ | refine andThen_ret ?_ | refine inBlock_normal ?_ | refine inBlock_ret ?_ | refine inBlock_here ?_ | refine inBlock_out rfl ?_ | refine LWp.seq ?_ | refine LWp.region ?_ | refine LWp.block ?_ | refine LWp.exit ?_ | refine LWp.ret ?_ | refine LWp.skip ?_ | refine LOps.valA ?_ | refine LOps.outA ?_ | refine LOps.whenA ?_ | refine LOps.pickA ?_ | refine LOps.storeA ?_)
  refine LWp.cond rfl (fun hx => ?_) (fun hx => ?_)
  · exfalso; simp at hx
  clear hx
  repeat (first | refine LOps.valH (LVal.load hD rfl rfl k6 rfl rfl) ?_ | refine LOps.nil ?_ | refine andThen_normal ?_ | refine andThen_exit ?_ | refine andThen_ret ?_ | refine inBlock_normal ?_ | refine inBlock_ret ?_ | refine inBlock_here ?_ | refine inBlock_out rfl ?_ | refine LWp.seq ?_ | refine LWp.region ?_ | refine LWp.block ?_ | refine LWp.exit ?_ | refine LWp.ret ?_ | refine LWp.skip ?_ | refine LOps.valA ?_ | refine LOps.outA ?_ | refine LOps.whenA ?_ | refine LOps.pickA ?_ | refine LOps.storeA ?_)
  refine LOps.do (LDo.callX (spoilP_L hP ({ a with keys := a.keys ++ [(⟨#[109, 111, 114, 101]⟩ : ByteArray)], vals := a.vals ++ [(⟨#[109, 111, 114, 101]⟩ : ByteArray)], kids := a.kids ++ [(⟨9, 9⟩ : HdV)] }) okc XN YN ZN _ RA.x RA.y RA.z RA.xy RA.xz RA.yz) (by rw [hP]; exact Try.func25)) rfl rfl rfl ?_
  rintro r30 S30 sp
  replace k2 := sp.box _ _ k2 offa2.1 offa2.2.1 offa2.2.2
  replace k5 := sp.box _ _ k5 offa5.1 offa5.2.1 offa5.2.2
  replace k7 := sp.box _ _ k7 offa7.1 offa7.2.1 offa7.2.2
  replace k12 := sp.box _ _ k12 offa12.1 offa12.2.1 offa12.2.2
  replace RB := RB.spo sp apt2.symm
  clear sp RA k6 k11 hle
  repeat (first | refine LOps.valH (LVal.load hD rfl rfl k7 rfl rfl) ?_ | refine LOps.valH (LVal.load hD rfl rfl k12 rfl rfl) ?_ | refine LOps.valH (LVal.callAny (fun G' e => equal_F (e.trans hP) b b okb) rfl rfl (by rw [hP]; exact Try.func22) rfl (by decide) ⟨.agg RB.views, .agg (nd_views _ _), trivial⟩) ?_ | refine LOps.nil ?_ | refine andThen_normal ?_ | refine andThen_exit ?_ | refine andThen_ret ?_ | refine inBlock_normal ?_ | refine inBlock_ret ?_ | refine inBlock_here ?_ | refine inBlock_out rfl ?_ | refine LWp.seq ?_ | refine LWp.region ?_ | refine LWp.block ?_ | refine LWp.exit ?_ | refine LWp.ret ?_ | refine LWp.skip ?_ | refine LOps.valA ?_ | refine LOps.outA ?_ | refine LOps.whenA ?_ | refine LOps.pickA ?_ | refine LOps.storeA ?_)
  refine LWp.cond rfl (fun hx => ?_) (fun hx => ?_)
  · exfalso; simp at hx
  clear hx
  repeat (first | refine LOps.valH (LVal.load hD rfl rfl k7 rfl rfl) ?_ | refine LOps.nil ?_ | refine andThen_normal ?_ | refine andThen_exit ?_ | refine andThen_ret ?_ | refine inBlock_normal ?_ | refine inBlock_ret ?_ | refine inBlock_here ?_ | refine inBlock_out rfl ?_ | refine LWp.seq ?_ | refine LWp.region ?_ | refine LWp.block ?_ | refine LWp.exit ?_ | refine LWp.ret ?_ | refine LWp.skip ?_ | refine LOps.valA ?_ | refine LOps.outA ?_ | refine LOps.whenA ?_ | refine LOps.pickA ?_ | refine LOps.storeA ?_)
  refine LOps.do (LDo.callX (spoilP_L hP (b) okb XB YB ZB _ RB.x RB.y RB.z RB.xy RB.xz RB.yz) (by rw [hP]; exact Try.func25)) rfl rfl rfl ?_
  rintro r33 S33 sp
  replace k2 := sp.box _ _ k2 offb2.1 offb2.2.1 offb2.2.2
  replace k5 := sp.box _ _ k5 offb5.1 offb5.2.1 offb5.2.2
  have ce := equal_F hP n n hn
  repeat (first | refine LOps.valH (LVal.load hD rfl rfl k2 rfl rfl) ?_ | refine LOps.valH (LVal.load hD rfl rfl k5 rfl rfl) ?_ | refine LOps.nil ?_ | refine andThen_normal ?_ | refine andThen_exit ?_ | refine andThen_ret ?_ | refine inBlock_normal ?_ | refine inBlock_ret ?_ | refine inBlock_here ?_ | refine inBlock_out rfl ?_ | refine LWp.seq ?_ | refine LWp.region ?_ | refine LWp.block ?_ | refine LWp.exit ?_ | refine LWp.ret ?_ | refine LWp.skip ?_ | refine LOps.val (LVal.call rfl rfl (by rw [hP]; exact Try.func22) rfl (by decide) (ce)) rfl rfl rfl ?_ | refine LOps.whenC (LVal.call rfl rfl (by rw [hP]; exact Try.func22) rfl (by decide) (ce)) ?_ | refine LOps.valA ?_ | refine LOps.outA ?_ | refine LOps.whenA ?_ | refine LOps.pickA ?_ | refine LOps.storeA ?_)
  refine ⟨_, LRes.one rfl, ?_⟩
  show TV.one (bv (decide (n = n))) = _
  rw [decide_eq_true rfl]
end Go.Proofs.Ytjcpcgneghanfaa.LF

namespace Go.Proofs.Ytjcpcgneghanfaa
open Go.RowKit LF
theorem blnodeSplits_walk (W : World) (v0 : Value) (l0 : List LV) (y0 : Typed LF.D 28 l0) (g0 : RepT (G0 Try.prog W) W (allCells W) (argTV ti28 l0) v0) (v1 : Value) (l1 : List LV) (y1 : Typed LF.D 26 l1) (g1 : RepT (G0 Try.prog W) W (allCells W) (argTV ti26 l1) v1) :
    Calls Try.prog 5 #[v0, v1] W fun e W' => e = .returned (.bool true) ∧ Below W.heap.size W W' := by
  obtain ⟨n, rfl, hz⟩ := typed_nd y0
  obtain ⟨h0, rfl⟩ := typed_hd y1
  exact law_calls (fun G S h => splits_L h n hz h0 S) (.cons (vs := [v1]) g0 (.cons (vs := []) g1 .nil))
end Go.Proofs.Ytjcpcgneghanfaa
