/- The B-link node: the walks of clone, Put. -/
import Derived.Test.YtjcpcgneghanfaaLBb
import Derived.Test.YtjcpcgneghanfaaLFr2
set_option linter.unusedVariables false
set_option linter.unusedSimpArgs false
namespace Go.Proofs.Ytjcpcgneghanfaa.LF
open Go.RowKit
set_option linter.unusedVariables false

theorem SlAt.other {α : Type} {f : α → List LV} {z : Nat} {S : LS} {X : LV} {l : List α} {b : Nat} (h : SlAt f z S X l) (hne : blockOf X ≠ some b) (cs : List LV) : SlAt f z (S.setBox b cs) X l := by
  cases h with
  | nil => exact .nil
  | row r c _ rest hr => exact .row r c l rest ⟨(box_set_ne S cs (fun e => hne (by rw [← e]; rfl))).trans hr.box, hr.room, hr.cap⟩
theorem SlAt.apart {α β : Type} {f : α → List LV} {g : β → List LV} {z y : Nat} {S : LS} {X Y : LV} {l : List α} (h : SlAt f z S X l) (hn : ∀ c, blockOf Y = some c → S.box c = none) : ∀ c, blockOf X = some c → blockOf Y ≠ some c := fun c hc e => by
  obtain ⟨cs, hcs⟩ := h.block c hc
  rw [hn c e] at hcs; cases hcs
/-- A node of its own: its slices lie in boxes that are new over S0, apart from one another. -/
structure Raw (S0 S : LS) (n : NdV) (X Y Z : LV) : Prop where
  x : SlAt sL 1 S X n.keys
  y : SlAt sL 1 S Y n.vals
  z : SlAt hdL 2 S Z n.kids
  nx : ∀ c, blockOf X = some c → S0.box c = none
  ny : ∀ c, blockOf Y = some c → S0.box c = none
  nz : ∀ c, blockOf Z = some c → S0.box c = none
  xy : ∀ c, blockOf X = some c → blockOf Y ≠ some c
  xz : ∀ c, blockOf X = some c → blockOf Z ≠ some c
  yz : ∀ c, blockOf Y = some c → blockOf Z ≠ some c
theorem Raw.keep {S0 S S' : LS} {n : NdV} {X Y Z : LV} (h : Raw S0 S n X Y Z) (k : ∀ c cs, S.box c = some cs → blockOf X = some c ∨ blockOf Y = some c ∨ blockOf Z = some c → S'.box c = some cs) : Raw S0 S' n X Y Z := by
  refine ⟨?_, ?_, ?_, h.nx, h.ny, h.nz, h.xy, h.xz, h.yz⟩
  · have hx := h.x
    generalize n.keys = l at *
    cases hx with
    | nil => exact .nil
    | row r c _ rest hr => exact .row r c l rest ⟨k r _ hr.box (.inl rfl), hr.room, hr.cap⟩
  · have hx := h.y
    generalize n.vals = l at *
    cases hx with
    | nil => exact .nil
    | row r c _ rest hr => exact .row r c l rest ⟨k r _ hr.box (.inr (.inl rfl)), hr.room, hr.cap⟩
  · have hx := h.z
    generalize n.kids = l at *
    cases hx with
    | nil => exact .nil
    | row r c _ rest hr => exact .row r c l rest ⟨k r _ hr.box (.inr (.inr rfl)), hr.room, hr.cap⟩
/-- What was returned, frozen. -/
theorem Raw.frz {S0 S : LS} {n : NdV} {X Y Z : LV} (h : Raw S0 S n X Y Z) (hle : S0.le S) (rest : List TV) : ∃ S2, Frz S (.tup (.agg (ndX n X Y Z) :: rest)) S2 (.tup (.agg (ndL n) :: rest)) ∧ Frz S (.agg (ndX n X Y Z)) S2 (.agg (ndL n)) ∧ S0.le S2 := by
  obtain ⟨S1, f1, g1, b1, r1, o1, t1⟩ := Frz.cell sL_len h.x [bv n.leaf] [Y, Z, sv n.high, bv n.bounded, iv n.next.s, gv n.next.g] rest
  have hy1 : SlAt sL 1 S1 Y n.vals := by
    have hx := h.y
    have hxy := h.xy
    generalize n.vals = l at *
    cases hx with
    | nil => exact .nil
    | row r c _ rest hr => exact .row r c l rest ⟨b1 r _ hr.box (fun e => hxy r e rfl), hr.room, hr.cap⟩
  have hz1 : SlAt hdL 2 S1 Z n.kids := by
    have hx := h.z
    have hxy := h.xz
    generalize n.kids = l at *
    cases hx with
    | nil => exact .nil
    | row r c _ rest hr => exact .row r c l rest ⟨b1 r _ hr.box (fun e => hxy r e rfl), hr.room, hr.cap⟩
  obtain ⟨S2, f2, g2, b2, r2, o2, t2⟩ := Frz.cell sL_len hy1 [bv n.leaf, .sl .sh (n.keys.map sL)] [Z, sv n.high, bv n.bounded, iv n.next.s, gv n.next.g] rest
  have hz2 : SlAt hdL 2 S2 Z n.kids := by
    have hxy := h.yz
    generalize n.kids = l at *
    cases hz1 with
    | nil => exact .nil
    | row r c _ rest hr => exact .row r c l rest ⟨b2 r _ hr.box (fun e => hxy r e rfl), hr.room, hr.cap⟩
  obtain ⟨S3, f3, g3, b3, r3, o3, t3⟩ := Frz.cell hdL_len hz2 [bv n.leaf, .sl .sh (n.keys.map sL), .sl .sh (n.vals.map sL)] [sv n.high, bv n.bounded, iv n.next.s, gv n.next.g] rest
  refine ⟨S3, (f1.trans f2).trans f3, (g1.trans g2).trans g3, ⟨fun c cs hc => ?_, fun b x hb => r3 b x (r2 b x (r1 b x (hle.row b x hb))), fun b x hb => o3 b x (o2 b x (o1 b x (hle.obj b x hb))), Nat.le_trans hle.top (Nat.le_trans t1 (Nat.le_trans t2 t3))⟩⟩
  refine b3 c cs (b2 c cs (b1 c cs (hle.box c cs hc) ?_) ?_) ?_
  · intro e; rw [h.nx c e] at hc; cases hc
  · intro e; rw [h.ny c e] at hc; cases hc
  · intro e; rw [h.nz c e] at hc; cases hc

theorem Mv.afterLe {S S1 S' : LS} {X X' : LV} (h : S.le S1) (k : Mv S1 X S' X') : Mv S X S' X' :=
  ⟨fun b cs hb hx => k.box b cs (h.box b cs hb) hx, fun b x hb => k.row b x (h.row b x hb), fun b x hb => k.obj b x (h.obj b x hb), Nat.le_trans h.top k.top⟩
theorem Mv.newLe {S0 S S' : LS} {X X' : LV} (hle : S0.le S) (hn : ∀ c, blockOf X = some c → S0.box c = none) (k : Mv S X S' X') : S0.le S' ∧ ∀ c, blockOf X' = some c → S0.box c = none := by
  refine ⟨⟨fun c cs hc => (k.box c cs (hle.box c cs hc) (fun e => by rw [hn c e] at hc; cases hc)).1, fun c x hc => k.row c x (hle.row c x hc), fun c x hc => k.obj c x (hle.obj c x hc), Nat.le_trans hle.top k.top⟩, fun c hc => ?_⟩
  cases hq : S0.box c with
  | none => rfl
  | some cs => exact absurd hc (k.box c cs (hle.box c cs hq) (fun e => by rw [hn c e] at hq; cases hq)).2
theorem Mv.off {S S' : LS} {X X' Y : LV} {α : Type} {f : α → List LV} {z : Nat} {m : List α} (k : Mv S X S' X') (h : SlAt f z S Y m) (hne : ∀ c, blockOf X = some c → blockOf Y ≠ some c) : SlAt f z S' Y m ∧ ∀ c, blockOf X' = some c → blockOf Y ≠ some c := by
  refine ⟨h.keep k fun c hc e => hne c e hc, fun c hc e => ?_⟩
  obtain ⟨cs, hcs⟩ := h.block c e
  exact (k.box c cs hcs fun e2 => hne c e2 e).2 hc
theorem Raw.setX {S0 S S' : LS} {n : NdV} {X X' Y Z : LV} {ks : List ByteArray} (R : Raw S0 S n X Y Z) (hle : S0.le S) (k : SlAt sL 1 S' X' ks) (mv : Mv S X S' X') : Raw S0 S' { n with keys := ks } X' Y Z ∧ S0.le S' := by
  obtain ⟨h1, h2⟩ := mv.newLe hle R.nx
  obtain ⟨y1, y2⟩ := mv.off R.y R.xy
  obtain ⟨z1, z2⟩ := mv.off R.z R.xz
  exact ⟨⟨k, y1, z1, h2, R.ny, R.nz, y2, z2, R.yz⟩, h1⟩
theorem Raw.setY {S0 S S' : LS} {n : NdV} {X Y Y' Z : LV} {ks : List ByteArray} (R : Raw S0 S n X Y Z) (hle : S0.le S) (k : SlAt sL 1 S' Y' ks) (mv : Mv S Y S' Y') : Raw S0 S' { n with vals := ks } X Y' Z ∧ S0.le S' := by
  obtain ⟨h1, h2⟩ := mv.newLe hle R.ny
  obtain ⟨y1, y2⟩ := mv.off R.x (fun c h e => R.xy c e h)
  obtain ⟨z1, z2⟩ := mv.off R.z R.yz
  exact ⟨⟨y1, k, z1, R.nx, h2, R.nz, fun c h e => y2 c e h, R.xz, z2⟩, h1⟩
theorem Raw.setZ {S0 S S' : LS} {n : NdV} {X Y Z Z' : LV} {ks : List HdV} (R : Raw S0 S n X Y Z) (hle : S0.le S) (k : SlAt hdL 2 S' Z' ks) (mv : Mv S Z S' Z') : Raw S0 S' { n with kids := ks } X Y Z' ∧ S0.le S' := by
  obtain ⟨h1, h2⟩ := mv.newLe hle R.nz
  obtain ⟨y1, y2⟩ := mv.off R.x (fun c h e => R.xz c e h)
  obtain ⟨z1, z2⟩ := mv.off R.y (fun c h e => R.yz c e h)
  exact ⟨⟨y1, z1, k, R.nx, R.ny, h2, R.xy, fun c h e => y2 c e h, fun c h e => z2 c e h⟩, h1⟩
/-- A box of the walk beside a node's slices. -/
def Off (X Y Z : LV) (b : Nat) : Prop := blockOf X ≠ some b ∧ blockOf Y ≠ some b ∧ blockOf Z ≠ some b
theorem Raw.set {S0 S : LS} {n : NdV} {X Y Z : LV} {b : Nat} (R : Raw S0 S n X Y Z) (h : Off X Y Z b) (cs : List LV) : Raw S0 (S.setBox b cs) n X Y Z :=
  R.keep fun c cs' hc hx => (box_set_ne S cs (fun e => by
    subst e
    rcases hx with hx | hx | hx
    · exact h.1 hx
    · exact h.2.1 hx
    · exact h.2.2 hx)).trans hc
theorem ndRes {G : Ctx} (hP : G.P = Try.prog) {n : Nat} {fn : Func} {T : Nat → TV} {S : LS} {a : Tmp} {b : Nat} {x : NdV} {X Y Z : LV} (hf : fn.results = #[.cell a 28]) (ha : T a = ptr b) (hb : S.box b = some (ndX x X Y Z)) : LRes G n fn T S (.agg (ndX x X Y Z)) :=
  LRes.cell hf (.cell ha hb (hP ▸ tok28) rfl)
theorem ndRes3 {G : Ctx} (hP : G.P = Try.prog) {n : Nat} {fn : Func} {T : Nat → TV} {S : LS} {a t u : Tmp} {b : Nat} {x : NdV} {X Y Z : LV} {p q : TV} (hf : fn.results = #[.cell a 28, .tmp t, .tmp u]) (ha : T a = ptr b) (hb : S.box b = some (ndX x X Y Z)) (hp : T t = p) (hq : T u = q) : LRes G n fn T S (.tup [.agg (ndX x X Y Z), p, q]) := by
  subst hp; subst hq
  exact LRes.many (vs := [.cell a 28, .tmp t, .tmp u]) hf rfl (.cons (.cell ha hb (hP ▸ tok28) rfl) (.cons (.tmp _) (.cons (.tmp _) .nil)))

set_option maxHeartbeats 4000000 in
theorem clone_L {G : Ctx} (hP : G.P = Try.prog) (n : NdV) (hn : n.ok) (S : LS) : LCalls G 39 [.agg (ndL n)] (fun r S' => ∃ X Y Z, r = .agg (ndX n X Y Z) ∧ S.le S' ∧ Raw S S' n X Y Z) S := by
  have hD : TabOK G.P D := by rw [hP]; exact hD0
  have hnk := hn.keys
  have hnv := hn.vals
  have hnh := hn.kids
  refine LCalls.enter (fn := Try.f39) (by rw [hP]; exact Try.func39) rfl rfl ?_
  repeat (first | refine LOps.nil ?_ | refine andThen_normal ?_ | refine andThen_exit ?_ | refine andThen_ret ?_ | refine inBlock_normal ?_ | refine inBlock_ret ?_ | refine inBlock_here ?_ | refine inBlock_out rfl ?_ | refine LWp.seq ?_ | refine LWp.region ?_ | refine LWp.block ?_ | refine LWp.exit ?_ | refine LWp.ret ?_ | refine LWp.skip ?_ | refine LOps.valA ?_ | refine LOps.outA ?_ | refine LOps.whenA ?_ | refine LOps.pickA ?_ | refine LOps.storeA ?_)
  have hle := LS.le.refl S
  refine LOps.do (LDo.box rfl rfl) rfl rfl rfl ?_
  rintro _ _ ⟨b1, hb1, rfl, rfl⟩
  have s1 := hle.none hb1
  refine LOps.gen (fun S' => S.le S' ∧ S'.box b1 = some (ndL n)) ⟨hle.newBox hb1 _, box_new _ _ _⟩ ?_
  clear hle hb1 
  rintro S1 ⟨hle, k1⟩
  skip
  refine LOps.do (LDo.alloc hD rfl rfl rfl) rfl rfl rfl ?_
  rintro _ _ ⟨b2, hb2, rfl, rfl⟩
  have n1_2 := fresh_ne hb2 k1
  have m2_1 := n1_2.symm
  have s2 := hle.none hb2
  refine LOps.gen (fun S' => S.le S' ∧ S'.box b1 = some (ndL n) ∧ S'.box b2 = some (ndX noNd (.sl .nil []) (.sl .nil []) (.sl .nil []))) ⟨hle.newBox hb2 _, (box_new_ne _ _ n1_2).trans k1, box_new _ _ _⟩ ?_
  clear hle hb2 k1
  rintro S2 ⟨hle, k1, k2⟩
  repeat (first | refine LOps.nil ?_ | refine andThen_normal ?_ | refine andThen_exit ?_ | refine andThen_ret ?_ | refine inBlock_normal ?_ | refine inBlock_ret ?_ | refine inBlock_here ?_ | refine inBlock_out rfl ?_ | refine LWp.seq ?_ | refine LWp.region ?_ | refine LWp.block ?_ | refine LWp.exit ?_ | refine LWp.ret ?_ | refine LWp.skip ?_ | refine LOps.valA ?_ | refine LOps.outA ?_ | refine LOps.whenA ?_ | refine LOps.pickA ?_ | refine LOps.storeA ?_)
  refine LOps.do (LDo.callF (cloneSS_L hP sL_len n.keys _ (by omega)) (by rw [hP]; exact Try.func45)) rfl rfl rfl ?_
  rintro _ S3 ⟨X, rfl, hX, le3, nX⟩
  have k13 := le3.box _ _ k1
  have k23 := le3.box _ _ k2
  repeat (first | refine LOps.nil ?_ | refine andThen_normal ?_ | refine andThen_exit ?_ | refine andThen_ret ?_ | refine inBlock_normal ?_ | refine inBlock_ret ?_ | refine inBlock_here ?_ | refine inBlock_out rfl ?_ | refine LWp.seq ?_ | refine LWp.region ?_ | refine LWp.block ?_ | refine LWp.exit ?_ | refine LWp.ret ?_ | refine LWp.skip ?_ | refine LOps.valA ?_ | refine LOps.outA ?_ | refine LOps.whenA ?_ | refine LOps.pickA ?_)
  refine LOps.storeA (b := b1) (off := 1) (cs := ndL n) (l := [X]) ?_
  have x1 : blockOf X ≠ some b1 := fun e => by rw [nX b1 e] at k1; cases k1
  have x2 : blockOf X ≠ some b2 := fun e => by rw [nX b2 e] at k2; cases k2
  refine LOps.gen (fun S' => S.le S' ∧ S'.box b1 = some (ndX n X (.sl .sh (n.vals.map sL)) (.sl .sh (n.kids.map hdL))) ∧ S'.box b2 = some (ndX noNd (.sl .nil []) (.sl .nil []) (.sl .nil [])) ∧ SlAt sL 1 S' X n.keys) ⟨(hle.trans le3).setBox s1 _, box_set _ _ _, (box_set_ne _ _ n1_2.symm).trans k23, hX.other x1 _⟩ ?_
  have nX' : ∀ c, blockOf X = some c → S.box c = none := fun c hc => by
    cases hq : S.box c with
    | none => rfl
    | some cs => have := nX c hc; rw [hle.box c cs hq] at this; cases this
  clear hle k1 k2 k13 k23 hX le3 nX
  rintro S4 ⟨hle, k1, k2, hX⟩
  repeat (first | refine LOps.nil ?_ | refine andThen_normal ?_ | refine andThen_exit ?_ | refine andThen_ret ?_ | refine inBlock_normal ?_ | refine inBlock_ret ?_ | refine inBlock_here ?_ | refine inBlock_out rfl ?_ | refine LWp.seq ?_ | refine LWp.region ?_ | refine LWp.block ?_ | refine LWp.exit ?_ | refine LWp.ret ?_ | refine LWp.skip ?_ | refine LOps.valA ?_ | refine LOps.outA ?_ | refine LOps.whenA ?_ | refine LOps.pickA ?_ | refine LOps.storeA ?_)
  refine LOps.do (LDo.callF (cloneSS_L hP sL_len n.vals _ (by omega)) (by rw [hP]; exact Try.func45)) rfl rfl rfl ?_
  rintro _ S5 ⟨Y, rfl, hY, le5, nY⟩
  have k15 := le5.box _ _ k1
  have k25 := le5.box _ _ k2
  repeat (first | refine LOps.nil ?_ | refine andThen_normal ?_ | refine andThen_exit ?_ | refine andThen_ret ?_ | refine inBlock_normal ?_ | refine inBlock_ret ?_ | refine inBlock_here ?_ | refine inBlock_out rfl ?_ | refine LWp.seq ?_ | refine LWp.region ?_ | refine LWp.block ?_ | refine LWp.exit ?_ | refine LWp.ret ?_ | refine LWp.skip ?_ | refine LOps.valA ?_ | refine LOps.outA ?_ | refine LOps.whenA ?_ | refine LOps.pickA ?_)
  refine LOps.storeA (b := b1) (off := 2) (cs := ndX n X (.sl .sh (n.vals.map sL)) (.sl .sh (n.kids.map hdL))) (l := [Y]) ?_
  have y1 : blockOf Y ≠ some b1 := fun e => by rw [nY b1 e] at k1; cases k1
  have y2 : blockOf Y ≠ some b2 := fun e => by rw [nY b2 e] at k2; cases k2
  have xy := hX.apart (f := sL) (g := sL) (y := 1) nY
  refine LOps.gen (fun S' => S.le S' ∧ S'.box b1 = some (ndX n X Y (.sl .sh (n.kids.map hdL))) ∧ S'.box b2 = some (ndX noNd (.sl .nil []) (.sl .nil []) (.sl .nil [])) ∧ SlAt sL 1 S' X n.keys ∧ SlAt sL 1 S' Y n.vals) ⟨(hle.trans le5).setBox s1 _, box_set _ _ _, (box_set_ne _ _ n1_2.symm).trans k25, (hX.le le5).other x1 _, hY.other y1 _⟩ ?_
  have nY' : ∀ c, blockOf Y = some c → S.box c = none := fun c hc => by
    cases hq : S.box c with
    | none => rfl
    | some cs => have := nY c hc; rw [hle.box c cs hq] at this; cases this
  clear hle k1 k2 k15 k25 hX hY le5 nY
  rintro S6 ⟨hle, k1, k2, hX, hY⟩
  repeat (first | refine LOps.nil ?_ | refine andThen_normal ?_ | refine andThen_exit ?_ | refine andThen_ret ?_ | refine inBlock_normal ?_ | refine inBlock_ret ?_ | refine inBlock_here ?_ | refine inBlock_out rfl ?_ | refine LWp.seq ?_ | refine LWp.region ?_ | refine LWp.block ?_ | refine LWp.exit ?_ | refine LWp.ret ?_ | refine LWp.skip ?_ | refine LOps.valA ?_ | refine LOps.outA ?_ | refine LOps.whenA ?_ | refine LOps.pickA ?_ | refine LOps.storeA ?_)
  refine LOps.do (LDo.callF (cloneSH_L hP hdL_len n.kids _ (by omega)) (by rw [hP]; exact Try.func46)) rfl rfl rfl ?_
  rintro _ S7 ⟨Z, rfl, hZ, le7, nZ⟩
  have k17 := le7.box _ _ k1
  have k27 := le7.box _ _ k2
  repeat (first | refine LOps.nil ?_ | refine andThen_normal ?_ | refine andThen_exit ?_ | refine andThen_ret ?_ | refine inBlock_normal ?_ | refine inBlock_ret ?_ | refine inBlock_here ?_ | refine inBlock_out rfl ?_ | refine LWp.seq ?_ | refine LWp.region ?_ | refine LWp.block ?_ | refine LWp.exit ?_ | refine LWp.ret ?_ | refine LWp.skip ?_ | refine LOps.valA ?_ | refine LOps.outA ?_ | refine LOps.whenA ?_ | refine LOps.pickA ?_)
  refine LOps.storeA (b := b1) (off := 3) (cs := ndX n X Y (.sl .sh (n.kids.map hdL))) (l := [Z]) ?_
  have z1 : blockOf Z ≠ some b1 := fun e => by rw [nZ b1 e] at k1; cases k1
  have z2 : blockOf Z ≠ some b2 := fun e => by rw [nZ b2 e] at k2; cases k2
  have xz := hX.apart (f := sL) (g := hdL) (y := 2) nZ
  have yz := hY.apart (f := sL) (g := hdL) (y := 2) nZ
  refine LOps.gen (fun S' => S.le S' ∧ S'.box b1 = some (ndX n X Y Z) ∧ S'.box b2 = some (ndX noNd (.sl .nil []) (.sl .nil []) (.sl .nil [])) ∧ SlAt sL 1 S' X n.keys ∧ SlAt sL 1 S' Y n.vals ∧ SlAt hdL 2 S' Z n.kids) ⟨(hle.trans le7).setBox s1 _, box_set _ _ _, (box_set_ne _ _ n1_2.symm).trans k27, (hX.le le7).other x1 _, (hY.le le7).other y1 _, hZ.other z1 _⟩ ?_
  have nZ' : ∀ c, blockOf Z = some c → S.box c = none := fun c hc => by
    cases hq : S.box c with
    | none => rfl
    | some cs => have := nZ c hc; rw [hle.box c cs hq] at this; cases this
  clear hle k1 k2 k17 k27 hX hY hZ le7 nZ
  rintro S8 ⟨hle, k1, k2, hX, hY, hZ⟩
  repeat (first | refine LOps.valH (LVal.load hD rfl rfl k1 rfl rfl) ?_ | refine LOps.nil ?_ | refine andThen_normal ?_ | refine andThen_exit ?_ | refine andThen_ret ?_ | refine inBlock_normal ?_ | refine inBlock_ret ?_ | refine inBlock_here ?_ | refine inBlock_out rfl ?_ | refine LWp.seq ?_ | refine LWp.region ?_ | refine LWp.block ?_ | refine LWp.exit ?_ | refine LWp.ret ?_ | refine LWp.skip ?_ | refine LOps.valA ?_ | refine LOps.outA ?_ | refine LOps.whenA ?_ | refine LOps.pickA ?_)
  refine LOps.storeA (b := b2) (off := 0) (cs := ndX noNd (.sl .nil []) (.sl .nil []) (.sl .nil [])) (l := ndX n X Y Z) ?_
  repeat (first | refine LOps.nil ?_ | refine andThen_normal ?_ | refine andThen_exit ?_ | refine andThen_ret ?_ | refine inBlock_normal ?_ | refine inBlock_ret ?_ | refine inBlock_here ?_ | refine inBlock_out rfl ?_ | refine LWp.seq ?_ | refine LWp.region ?_ | refine LWp.block ?_ | refine LWp.exit ?_ | refine LWp.ret ?_ | refine LWp.skip ?_ | refine LOps.valA ?_ | refine LOps.outA ?_ | refine LOps.whenA ?_ | refine LOps.pickA ?_ | refine LOps.storeA ?_)
  exact ⟨_, ndRes hP rfl rfl (box_set _ _ _), X, Y, Z, rfl, hle.setBox s2 _, ⟨hX.other x2 _, hY.other y2 _, hZ.other z2 _, nX', nY', nZ', xy, xz, yz⟩⟩
end Go.Proofs.Ytjcpcgneghanfaa.LF
