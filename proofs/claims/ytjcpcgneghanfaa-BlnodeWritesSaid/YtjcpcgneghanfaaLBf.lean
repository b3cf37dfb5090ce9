/- The B-link node: the walks of Add, Kid. -/
import Derived.Test.YtjcpcgneghanfaaLBe
set_option linter.unusedVariables false
set_option linter.unusedSimpArgs false
namespace Go.Proofs.Ytjcpcgneghanfaa.LF
open Go.RowKit
set_option linter.unusedVariables false

theorem Raw.offNew {S0 S : LS} {n : NdV} {X Y Z : LV} {b : Nat} (R : Raw S0 S n X Y Z) (h : S.box b = none) : Off X Y Z b := by
  refine ⟨fun e => ?_, fun e => ?_, fun e => ?_⟩
  · obtain ⟨cs, hcs⟩ := R.x.block b e; rw [h] at hcs; cases hcs
  · obtain ⟨cs, hcs⟩ := R.y.block b e; rw [h] at hcs; cases hcs
  · obtain ⟨cs, hcs⟩ := R.z.block b e; rw [h] at hcs; cases hcs
theorem Raw.offOld {S0 S : LS} {n : NdV} {X Y Z : LV} {b : Nat} {cs : List LV} (R : Raw S0 S n X Y Z) (h : S0.box b = some cs) : Off X Y Z b := by
  refine ⟨fun e => ?_, fun e => ?_, fun e => ?_⟩
  · have := R.nx b e; rw [h] at this; cases this
  · have := R.ny b e; rw [h] at this; cases this
  · have := R.nz b e; rw [h] at this; cases this
def NdV.add (n : NdV) (i : Nat) (sep : ByteArray) (kid : HdV) : NdV := { n with keys := insL n.keys i sep, kids := insL n.kids (i + 1) kid }
def shutN (n : NdV) (sep : ByteArray) : Bool := ((hasK n.keys sep || n.leaf) || !rightN n) || !coversN n sep
def addN (n : NdV) (sep : ByteArray) (kid : HdV) : NdV := if shutN n sep then n else n.add (cntK n.keys sep) sep kid
theorem shutN_no {n : NdV} {sep : ByteArray} (h : shutN n sep = false) : hasK n.keys sep = false ∧ n.leaf = false ∧ rightN n = true ∧ coversN n sep = true := by
  unfold shutN at h
  simp only [Bool.or_eq_false_iff, Bool.not_eq_false'] at h
  exact ⟨h.1.1.1, h.1.1.2, h.1.2, h.2⟩

set_option maxHeartbeats 8000000 in
set_option maxRecDepth 10000 in
theorem add_L {G : Ctx} (hP : G.P = Try.prog) (n : NdV) (hn : n.ok) (k : ByteArray) (kid : HdV) (S : LS) : LCalls G 21 [.agg (ndL n), .one (sv k), .agg (hdL kid)] (fun r S' => ∃ X Y Z, r = .agg (ndX (addN n k kid) X Y Z) ∧ S.le S' ∧ Raw S S' (addN n k kid) X Y Z) S := by
  have hD : TabOK G.P D := by rw [hP]; exact hD0
  have hnk := hn.keys
  have hnv := hn.vals
  have hnh := hn.kids
  have c1 := right_F hP n hn
  have c2 := find_F hP n hn k
  have c3 := covers_F hP n k
  refine LCalls.enter (fn := Try.f21) (by rw [hP]; exact Try.func21) rfl rfl ?_
  repeat (first | refine LOps.nil ?_ | refine andThen_normal ?_ | refine andThen_exit ?_ | refine andThen_ret ?_ | refine inBlock_normal ?_ | refine inBlock_ret ?_ | refine inBlock_here ?_ | refine inBlock_out rfl ?_ | refine LWp.seq ?_ | refine LWp.region ?_ | refine LWp.block ?_ | refine LWp.exit ?_ | refine LWp.ret ?_ | refine LWp.skip ?_ | refine LOps.valA ?_ | refine LOps.outA ?_ | refine LOps.whenA ?_ | refine LOps.pickA ?_ | refine LOps.storeA ?_)
  have hle := LS.le.refl S
  refine LOps.do (LDo.box rfl rfl) rfl rfl rfl ?_
  rintro _ _ ⟨b3, hb3, rfl, rfl⟩
  have s3 := hle.none hb3
  refine LOps.gen (fun S' => S.le S' ∧ S'.box b3 = some (ndL n)) ⟨hle.newBox hb3 _, box_new _ _ _⟩ ?_
  clear hle hb3 
  rintro S3 ⟨hle, k3⟩
  skip
  refine LOps.do (LDo.box rfl rfl) rfl rfl rfl ?_
  rintro _ _ ⟨b5, hb5, rfl, rfl⟩
  have n3_5 := fresh_ne hb5 k3
  have m5_3 := n3_5.symm
  have s5 := hle.none hb5
  refine LOps.gen (fun S' => S.le S' ∧ S'.box b3 = some (ndL n) ∧ S'.box b5 = some (hdL kid)) ⟨hle.newBox hb5 _, (box_new_ne _ _ n3_5).trans k3, box_new _ _ _⟩ ?_
  clear hle hb5 k3
  rintro S5 ⟨hle, k3, k5⟩
  skip
  refine LOps.do (LDo.alloc hD rfl rfl rfl) rfl rfl rfl ?_
  rintro _ _ ⟨b6, hb6, rfl, rfl⟩
  have n3_6 := fresh_ne hb6 k3
  have m6_3 := n3_6.symm
  have n5_6 := fresh_ne hb6 k5
  have m6_5 := n5_6.symm
  have s6 := hle.none hb6
  refine LOps.gen (fun S' => S.le S' ∧ S'.box b3 = some (ndL n) ∧ S'.box b5 = some (hdL kid) ∧ S'.box b6 = some (ndX noNd (.sl .nil []) (.sl .nil []) (.sl .nil []))) ⟨hle.newBox hb6 _, (box_new_ne _ _ n3_6).trans k3, (box_new_ne _ _ n5_6).trans k5, box_new _ _ _⟩ ?_
  clear hle hb6 k3 k5
  rintro S6 ⟨hle, k3, k5, k6⟩
  repeat (first | refine LOps.valH (LVal.load hD rfl rfl k3 rfl rfl) ?_ | refine LOps.nil ?_ | refine andThen_normal ?_ | refine andThen_exit ?_ | refine andThen_ret ?_ | refine inBlock_normal ?_ | refine inBlock_ret ?_ | refine inBlock_here ?_ | refine inBlock_out rfl ?_ | refine LWp.seq ?_ | refine LWp.region ?_ | refine LWp.block ?_ | refine LWp.exit ?_ | refine LWp.ret ?_ | refine LWp.skip ?_ | refine LOps.valA ?_ | refine LOps.outA ?_ | refine LOps.whenA ?_ | refine LOps.pickA ?_ | refine LOps.storeA ?_)
  refine LOps.do (LDo.callF (clone_L hP n hn _) (by rw [hP]; exact Try.func39)) rfl rfl rfl ?_
  rintro _ S7 ⟨X, Y, Z, rfl, le7, R⟩
  have k37 := le7.box _ _ k3
  have k57 := le7.box _ _ k5
  have k67 := le7.box _ _ k6
  refine LOps.do (LDo.alloc hD rfl rfl rfl) rfl rfl rfl ?_
  rintro _ _ ⟨b7, hb7, rfl, rfl⟩
  have n37 := fresh_ne hb7 k37
  have n57 := fresh_ne hb7 k57
  have n67 := fresh_ne hb7 k67
  have s7 := (hle.trans le7).none hb7
  have hno : ∀ c, (S6.box c = none) → S.box c = none := fun c hc => by
    cases hq : S.box c with
    | none => rfl
    | some cs => rw [hle.box c cs hq] at hc; cases hc
  have off7 := R.offNew hb7.box
  have off6 := R.offOld k6
  have off5 := R.offOld k5
  have R0 : Raw S S7 n X Y Z := ⟨R.x, R.y, R.z, fun c h => hno c (R.nx c h), fun c h => hno c (R.ny c h), fun c h => hno c (R.nz c h), R.xy, R.xz, R.yz⟩
  have R1 := R0.keep (S' := S7.newBox b7 (lzero ti28)) fun c cs hc _ => (LS.le.newBox (.refl S7) hb7 _).box c cs hc
  repeat (first | refine LOps.nil ?_ | refine andThen_normal ?_ | refine andThen_exit ?_ | refine andThen_ret ?_ | refine inBlock_normal ?_ | refine inBlock_ret ?_ | refine inBlock_here ?_ | refine inBlock_out rfl ?_ | refine LWp.seq ?_ | refine LWp.region ?_ | refine LWp.block ?_ | refine LWp.exit ?_ | refine LWp.ret ?_ | refine LWp.skip ?_ | refine LOps.valA ?_ | refine LOps.outA ?_ | refine LOps.whenA ?_ | refine LOps.pickA ?_)
  refine LOps.storeA (b := b7) (off := 0) (cs := lzero ti28) (l := ndX n X Y Z) ?_
  refine LOps.gen (fun S' => S.le S' ∧ S'.box b3 = some (ndL n) ∧ S'.box b5 = some (hdL kid) ∧ S'.box b6 = some (ndX noNd (.sl .nil []) (.sl .nil []) (.sl .nil [])) ∧ S'.box b7 = some (ndX n X Y Z) ∧ Raw S S' n X Y Z) ⟨((hle.trans le7).newBox hb7 _).setBox s7 _, (box_set_ne _ _ n37).trans ((box_new_ne _ _ n37).trans k37), (box_set_ne _ _ n57).trans ((box_new_ne _ _ n57).trans k57), (box_set_ne _ _ n67).trans ((box_new_ne _ _ n67).trans k67), box_set _ _ _, R1.set off7 _⟩ ?_
  clear hno hle k3 k5 k6 k37 k57 k67 R R0 R1 le7 hb7
  rintro S8 ⟨hle, k3, k5, k6, k7, R⟩
  repeat (first | refine LOps.valH (LVal.load hD rfl rfl k3 rfl rfl) ?_ | refine LOps.whenC (LVal.load hD rfl rfl k3 rfl rfl) ?_ | refine LOps.whenC (LVal.call rfl rfl (by rw [hP]; exact Try.func16) rfl (by decide) c1) ?_ | refine LOps.whenC (LVal.call rfl rfl (by rw [hP]; exact Try.func17) rfl (by decide) c3) ?_ | refine LOps.nil ?_ | refine andThen_normal ?_ | refine andThen_exit ?_ | refine andThen_ret ?_ | refine inBlock_normal ?_ | refine inBlock_ret ?_ | refine inBlock_here ?_ | refine inBlock_out rfl ?_ | refine LWp.seq ?_ | refine LWp.region ?_ | refine LWp.block ?_ | refine LWp.exit ?_ | refine LWp.ret ?_ | refine LWp.skip ?_ | refine LOps.val (LVal.call rfl rfl (by rw [hP]; exact Try.func14) rfl (by decide) (c2)) rfl rfl rfl ?_ | refine LOps.whenC (LVal.call rfl rfl (by rw [hP]; exact Try.func14) rfl (by decide) (c2)) ?_ | refine LOps.valA ?_ | refine LOps.outA ?_ | refine LOps.whenA ?_ | refine LOps.pickA ?_ | refine LOps.storeA ?_)
  refine LWp.cond rfl (fun h => ?_) (fun h => ?_)
  · have h : shutN n k = true := h
    have e : addN n k kid = n := by rw [addN, if_pos h]
    repeat (first | refine LOps.valH (LVal.load hD rfl rfl k7 rfl rfl) ?_ | refine LOps.nil ?_ | refine andThen_normal ?_ | refine andThen_exit ?_ | refine andThen_ret ?_ | refine inBlock_normal ?_ | refine inBlock_ret ?_ | refine inBlock_here ?_ | refine inBlock_out rfl ?_ | refine LWp.seq ?_ | refine LWp.region ?_ | refine LWp.block ?_ | refine LWp.exit ?_ | refine LWp.ret ?_ | refine LWp.skip ?_ | refine LOps.valA ?_ | refine LOps.outA ?_ | refine LOps.whenA ?_ | refine LOps.pickA ?_)
    refine LOps.storeA (b := b6) (off := 0) (cs := ndX noNd (.sl .nil []) (.sl .nil []) (.sl .nil [])) (l := ndX n X Y Z) ?_
    repeat (first | refine LOps.nil ?_ | refine andThen_normal ?_ | refine andThen_exit ?_ | refine andThen_ret ?_ | refine inBlock_normal ?_ | refine inBlock_ret ?_ | refine inBlock_here ?_ | refine inBlock_out rfl ?_ | refine LWp.seq ?_ | refine LWp.region ?_ | refine LWp.block ?_ | refine LWp.exit ?_ | refine LWp.ret ?_ | refine LWp.skip ?_ | refine LOps.valA ?_ | refine LOps.outA ?_ | refine LOps.whenA ?_ | refine LOps.pickA ?_ | refine LOps.storeA ?_)
    rw [e]
    exact ⟨_, ndRes hP rfl rfl (box_set _ _ _), X, Y, Z, rfl, hle.setBox s6 _, R.set off6 _⟩
  have h : shutN n k = false := h
  obtain ⟨hh, hl, hr, hc⟩ := shutN_no h
  obtain ⟨hvl, hkd⟩ := rightN_inner hr hl
  have hle2 := cntK_le n.keys k
  have e : addN n k kid = n.add (cntK n.keys k) k kid := by rw [addN, if_neg (by rw [h]; decide)]
  rw [e]
  repeat (first | (refine LOps.do (LDo.buildSliceR (n := 1) (ps := [(0, .tmp 38)]) (lp := [(0, [sv k])]) (l := [sv k]) hD rfl rfl rfl rfl rfl rfl rfl rfl rfl rfl rfl) rfl rfl rfl ?_; rintro _ _ ⟨b1, hb1, rfl, rfl⟩) | refine LOps.nil ?_ | refine andThen_normal ?_ | refine andThen_exit ?_ | refine andThen_ret ?_ | refine inBlock_normal ?_ | refine inBlock_ret ?_ | refine inBlock_here ?_ | refine inBlock_out rfl ?_ | refine LWp.seq ?_ | refine LWp.region ?_ | refine LWp.block ?_ | refine LWp.exit ?_ | refine LWp.ret ?_ | refine LWp.skip ?_ | refine LOps.valA ?_ | refine LOps.outA ?_ | refine LOps.whenA ?_ | refine LOps.pickA ?_ | refine LOps.storeA ?_)
  have le1 := LS.le.newBox (.refl S8) hb1 [sv k]
  refine LOps.do (LDo.callX (insS_L hP sL_len n.keys hle2 k X b1 _ (R.x.le le1) (box_new _ _ _) (fun e => by
    obtain ⟨cs, hcs⟩ := R.x.block b1 e
    rw [hb1.box] at hcs; cases hcs) (by omega)) (by rw [hP]; exact Try.func40)) rfl rfl rfl ?_
  rintro _ S9 ⟨X', rfl, hX', mv0⟩
  have mv := Mv.afterLe le1 mv0
  obtain ⟨k59, x5⟩ := mv.box b5 _ k5 off5.1
  obtain ⟨k69, x6⟩ := mv.box b6 _ k6 off6.1
  obtain ⟨k79, x7⟩ := mv.box b7 _ k7 off7.1
  obtain ⟨R9, le9⟩ := R.setX hle hX' mv
  have off5 : Off X' Y Z b5 := ⟨x5, off5.2⟩
  have off6 : Off X' Y Z b6 := ⟨x6, off6.2⟩
  have off7 : Off X' Y Z b7 := ⟨x7, off7.2⟩
  repeat (first | refine LOps.nil ?_ | refine andThen_normal ?_ | refine andThen_exit ?_ | refine andThen_ret ?_ | refine inBlock_normal ?_ | refine inBlock_ret ?_ | refine inBlock_here ?_ | refine inBlock_out rfl ?_ | refine LWp.seq ?_ | refine LWp.region ?_ | refine LWp.block ?_ | refine LWp.exit ?_ | refine LWp.ret ?_ | refine LWp.skip ?_ | refine LOps.valA ?_ | refine LOps.outA ?_ | refine LOps.whenA ?_ | refine LOps.pickA ?_)
  refine LOps.storeA (b := b7) (off := 1) (cs := ndX n X Y Z) (l := [X']) ?_
  refine LOps.gen (fun S' => S.le S' ∧ S'.box b5 = some (hdL kid) ∧ S'.box b6 = some (ndX noNd (.sl .nil []) (.sl .nil []) (.sl .nil [])) ∧ S'.box b7 = some (ndX n X' Y Z) ∧ Raw S S' { n with keys := insL n.keys (cntK n.keys k) k } X' Y Z) ⟨le9.setBox s7 _, (box_set_ne _ _ n57).trans k59, (box_set_ne _ _ n67).trans k69, box_set _ _ _, R9.set off7 _⟩ ?_
  clear hle k3 k5 k6 k7 k59 k69 k79 R R9 le9 mv mv0 le1 hX' hb1 x6 x5 x7
  rintro S10 ⟨hle, k5, k6, k7, R⟩
  repeat (first | refine LOps.valH (LVal.load hD rfl rfl k5 rfl rfl) ?_ | (refine LOps.do (LDo.buildSliceR (n := 1) (ps := [(0, .tmp 46)]) (lp := [(0, hdL kid)]) (l := hdL kid) hD rfl rfl rfl rfl rfl rfl rfl rfl rfl rfl rfl) rfl rfl rfl ?_; rintro _ _ ⟨b2, hb2, rfl, rfl⟩) | refine LOps.nil ?_ | refine andThen_normal ?_ | refine andThen_exit ?_ | refine andThen_ret ?_ | refine inBlock_normal ?_ | refine inBlock_ret ?_ | refine inBlock_here ?_ | refine inBlock_out rfl ?_ | refine LWp.seq ?_ | refine LWp.region ?_ | refine LWp.block ?_ | refine LWp.exit ?_ | refine LWp.ret ?_ | refine LWp.skip ?_ | refine LOps.valA ?_ | refine LOps.outA ?_ | refine LOps.whenA ?_ | refine LOps.pickA ?_ | refine LOps.storeA ?_)
  have le1 := LS.le.newBox (.refl S10) hb2 (hdL kid)
  refine LOps.do (LDo.callX (insH_L hP hdL_len n.kids (i := cntK n.keys k + 1) (by omega) kid Z b2 _ (R.z.le le1) (box_new _ _ _) (fun e => by
    obtain ⟨cs, hcs⟩ := R.z.block b2 e
    rw [hb2.box] at hcs; cases hcs) (by omega)) (by rw [hP]; exact Try.func41)) rfl rfl rfl ?_
  rintro _ S11 ⟨Z', rfl, hZ', mv0⟩
  have mv := Mv.afterLe le1 mv0
  obtain ⟨k69, z6⟩ := mv.box b6 _ k6 off6.2.2
  obtain ⟨k79, z7⟩ := mv.box b7 _ k7 off7.2.2
  obtain ⟨R9, le9⟩ := R.setZ hle hZ' mv
  have off6 : Off X' Y Z' b6 := ⟨off6.1, off6.2.1, z6⟩
  have off7 : Off X' Y Z' b7 := ⟨off7.1, off7.2.1, z7⟩
  repeat (first | refine LOps.nil ?_ | refine andThen_normal ?_ | refine andThen_exit ?_ | refine andThen_ret ?_ | refine inBlock_normal ?_ | refine inBlock_ret ?_ | refine inBlock_here ?_ | refine inBlock_out rfl ?_ | refine LWp.seq ?_ | refine LWp.region ?_ | refine LWp.block ?_ | refine LWp.exit ?_ | refine LWp.ret ?_ | refine LWp.skip ?_ | refine LOps.valA ?_ | refine LOps.outA ?_ | refine LOps.whenA ?_ | refine LOps.pickA ?_)
  refine LOps.storeA (b := b7) (off := 3) (cs := ndX n X' Y Z) (l := [Z']) ?_
  refine LOps.gen (fun S' => S.le S' ∧ S'.box b6 = some (ndX noNd (.sl .nil []) (.sl .nil []) (.sl .nil [])) ∧ S'.box b7 = some (ndX n X' Y Z') ∧ Raw S S' (n.add (cntK n.keys k) k kid) X' Y Z') ⟨le9.setBox s7 _, (box_set_ne _ _ n67).trans k69, box_set _ _ _, R9.set off7 _⟩ ?_
  clear hle k5 k6 k7 k69 k79 R R9 le9 mv mv0 le1 hZ' hb2 z6 z7
  rintro S12 ⟨hle, k6, k7, R⟩
  repeat (first | refine LOps.valH (LVal.load hD rfl rfl k7 rfl rfl) ?_ | refine LOps.nil ?_ | refine andThen_normal ?_ | refine andThen_exit ?_ | refine andThen_ret ?_ | refine inBlock_normal ?_ | refine inBlock_ret ?_ | refine inBlock_here ?_ | refine inBlock_out rfl ?_ | refine LWp.seq ?_ | refine LWp.region ?_ | refine LWp.block ?_ | refine LWp.exit ?_ | refine LWp.ret ?_ | refine LWp.skip ?_ | refine LOps.valA ?_ | refine LOps.outA ?_ | refine LOps.whenA ?_ | refine LOps.pickA ?_)
  refine LOps.storeA (b := b6) (off := 0) (cs := ndX noNd (.sl .nil []) (.sl .nil []) (.sl .nil [])) (l := ndX n X' Y Z') ?_
  repeat (first | refine LOps.nil ?_ | refine andThen_normal ?_ | refine andThen_exit ?_ | refine andThen_ret ?_ | refine inBlock_normal ?_ | refine inBlock_ret ?_ | refine inBlock_here ?_ | refine inBlock_out rfl ?_ | refine LWp.seq ?_ | refine LWp.region ?_ | refine LWp.block ?_ | refine LWp.exit ?_ | refine LWp.ret ?_ | refine LWp.skip ?_ | refine LOps.valA ?_ | refine LOps.outA ?_ | refine LOps.whenA ?_ | refine LOps.pickA ?_ | refine LOps.storeA ?_)
  exact ⟨_, ndRes (x := n.add (cntK n.keys k) k kid) hP rfl rfl (box_set _ _ _), X', Y, Z', rfl, hle.setBox s6 _, R.set off6 _⟩
theorem add_F {G : Ctx} (hP : G.P = Try.prog) (n : NdV) (hn : n.ok) (k : ByteArray) (kid : HdV) : LFun G 21 [.agg (ndL n), .one (sv k), .agg (hdL kid)] (.agg (ndL (addN n k kid))) := LFun.of fun S =>
  (add_L hP n hn k kid S).frz fun r S' ⟨X, Y, Z, e, hle, R⟩ => by
    obtain ⟨S2, _, f1, l2⟩ := R.frz hle []
    exact ⟨_, S2, e ▸ f1, rfl, l2⟩

def idxN (n : NdV) (k : ByteArray) : Nat := if hasK n.keys k then cntK n.keys k + 1 else cntK n.keys k
def kidN (n : NdV) (k : ByteArray) : HdV × Bool := if ((n.leaf || !rightN n) || !coversN n k) then (noHd, false) else (n.kids.getD (idxN n k) noHd, true)
theorem idxN_lt {n : NdV} {k : ByteArray} (hr : rightN n = true) (hl : n.leaf = false) : idxN n k < n.kids.length := by
  obtain ⟨_, hk⟩ := rightN_inner hr hl
  have := cntK_le n.keys k
  unfold idxN
  split
  · rename_i h
    obtain ⟨hlt, _⟩ := hasK_lt h
    omega
  · omega
theorem hdRes {G : Ctx} (hP : G.P = Try.prog) {n : Nat} {fn : Func} {T : Nat → TV} {S : LS} {a t : Tmp} {b : Nat} {x : HdV} {p : TV} (hf : fn.results = #[.cell a 26, .tmp t]) (ha : T a = ptr b) (hb : S.box b = some (hdL x)) (hp : T t = p) : LRes G n fn T S (.tup [.agg (hdL x), p]) := by
  subst hp
  exact LRes.many (vs := [.cell a 26, .tmp t]) hf rfl (.cons (.cell ha hb (hP ▸ tok26) rfl) (.cons (.tmp _) .nil))
set_option maxHeartbeats 4000000 in
theorem kid_F {G : Ctx} (hP : G.P = Try.prog) (n : NdV) (hn : n.ok) (k : ByteArray) : LFun G 20 [.agg (ndL n), .one (sv k)] (.tup [.agg (hdL (kidN n k).1), .one (bv (kidN n k).2)]) := LFun.of fun S => by
  have hD : TabOK G.P D := by rw [hP]; exact hD0
  have hnk := hn.keys
  have hnh := hn.kids
  have c1 := right_F hP n hn
  have c2 := find_F hP n hn k
  have c3 := covers_F hP n k
  refine LCalls.enter (fn := Try.f20) (by rw [hP]; exact Try.func20) rfl rfl ?_
  repeat (first | refine LOps.nil ?_ | refine andThen_normal ?_ | refine andThen_exit ?_ | refine andThen_ret ?_ | refine inBlock_normal ?_ | refine inBlock_ret ?_ | refine inBlock_here ?_ | refine inBlock_out rfl ?_ | refine LWp.seq ?_ | refine LWp.region ?_ | refine LWp.block ?_ | refine LWp.exit ?_ | refine LWp.ret ?_ | refine LWp.skip ?_ | refine LOps.valA ?_ | refine LOps.outA ?_ | refine LOps.whenA ?_ | refine LOps.pickA ?_ | refine LOps.storeA ?_)
  have hle := LS.le.refl S
  refine LOps.do (LDo.box rfl rfl) rfl rfl rfl ?_
  rintro _ _ ⟨b2, hb2, rfl, rfl⟩
  have s2 := hle.none hb2
  refine LOps.gen (fun S' => S.le S' ∧ S'.box b2 = some (ndL n)) ⟨hle.newBox hb2 _, box_new _ _ _⟩ ?_
  clear hle hb2 
  rintro S2 ⟨hle, k2⟩
  skip
  refine LOps.do (LDo.alloc hD rfl rfl rfl) rfl rfl rfl ?_
  rintro _ _ ⟨b4, hb4, rfl, rfl⟩
  have n2_4 := fresh_ne hb4 k2
  have m4_2 := n2_4.symm
  have s4 := hle.none hb4
  refine LOps.gen (fun S' => S.le S' ∧ S'.box b2 = some (ndL n) ∧ S'.box b4 = some (hdL noHd)) ⟨hle.newBox hb4 _, (box_new_ne _ _ n2_4).trans k2, box_new _ _ _⟩ ?_
  clear hle hb4 k2
  rintro S4 ⟨hle, k2, k4⟩
  repeat (first | refine LOps.whenC (LVal.load hD rfl rfl k2 rfl rfl) ?_ | refine LOps.whenC (LVal.call rfl rfl (by rw [hP]; exact Try.func16) rfl (by decide) c1) ?_ | refine LOps.whenC (LVal.call rfl rfl (by rw [hP]; exact Try.func17) rfl (by decide) c3) ?_ | refine LOps.nil ?_ | refine andThen_normal ?_ | refine andThen_exit ?_ | refine andThen_ret ?_ | refine inBlock_normal ?_ | refine inBlock_ret ?_ | refine inBlock_here ?_ | refine inBlock_out rfl ?_ | refine LWp.seq ?_ | refine LWp.region ?_ | refine LWp.block ?_ | refine LWp.exit ?_ | refine LWp.ret ?_ | refine LWp.skip ?_ | refine LOps.valA ?_ | refine LOps.outA ?_ | refine LOps.whenA ?_ | refine LOps.pickA ?_ | refine LOps.storeA ?_)
  refine LWp.cond rfl (fun h => ?_) (fun h => ?_)
  · have h : ((n.leaf || !rightN n) || !coversN n k) = true := h
    repeat (first | refine LOps.nil ?_ | refine andThen_normal ?_ | refine andThen_exit ?_ | refine andThen_ret ?_ | refine inBlock_normal ?_ | refine inBlock_ret ?_ | refine inBlock_here ?_ | refine inBlock_out rfl ?_ | refine LWp.seq ?_ | refine LWp.region ?_ | refine LWp.block ?_ | refine LWp.exit ?_ | refine LWp.ret ?_ | refine LWp.skip ?_ | refine LOps.valA ?_ | refine LOps.outA ?_ | refine LOps.whenA ?_ | refine LOps.pickA ?_)
    refine LOps.storeA (b := b4) (off := 0) (cs := hdL noHd) (l := hdL noHd) ?_
    refine LOps.gen (fun S' => S.le S' ∧ S'.box b2 = some (ndL n) ∧ S'.box b4 = some (hdL noHd)) ⟨hle.setBox s4 _, (box_set_ne _ _ n2_4).trans k2, (box_set _ _ _).trans (congrArg some (rfl))⟩ ?_
    clear hle k2 k4
    rintro Ss ⟨hle, k2, k4⟩
    repeat (first | refine LOps.nil ?_ | refine andThen_normal ?_ | refine andThen_exit ?_ | refine andThen_ret ?_ | refine inBlock_normal ?_ | refine inBlock_ret ?_ | refine inBlock_here ?_ | refine inBlock_out rfl ?_ | refine LWp.seq ?_ | refine LWp.region ?_ | refine LWp.block ?_ | refine LWp.exit ?_ | refine LWp.ret ?_ | refine LWp.skip ?_ | refine LOps.valA ?_ | refine LOps.outA ?_ | refine LOps.whenA ?_ | refine LOps.pickA ?_ | refine LOps.storeA ?_)
    exact ⟨_, hdRes hP rfl rfl k4 rfl, by rw [kidN, if_pos h]; rfl, hle⟩
  have h : ((n.leaf || !rightN n) || !coversN n k) = false := h
  have e : kidN n k = (n.kids.getD (idxN n k) noHd, true) := by rw [kidN, if_neg (by rw [h]; decide)]
  simp only [Bool.or_eq_false_iff, Bool.not_eq_false'] at h
  have hix := idxN_lt (k := k) h.1.2 h.1.1
  have hgd : n.kids.getD (idxN n k) noHd = n.kids[idxN n k] := by rw [List.getD_eq_getElem?_getD, List.getElem?_eq_getElem hix]; rfl
  rw [e, hgd]
  repeat (first | refine LOps.valH (LVal.load hD rfl rfl k2 rfl rfl) ?_ | (refine LWp.seq (LWp.cut 4 (fun T' S' => S' = S4 ∧ ∃ (T'' : Nat → TV), T' = over T'' [(2, ptr b2), (4, ptr b4), (6, .one (iv (idxN n k : Nat)))]) rfl ?_ ?_); rotate_left) | refine LOps.nil ?_ | refine andThen_normal ?_ | refine andThen_exit ?_ | refine andThen_ret ?_ | refine inBlock_normal ?_ | refine inBlock_ret ?_ | refine inBlock_here ?_ | refine inBlock_out rfl ?_ | refine LWp.seq ?_ | refine LWp.region ?_ | refine LWp.block ?_ | refine LWp.exit ?_ | refine LWp.ret ?_ | refine LWp.skip ?_ | refine LOps.val (LVal.call rfl rfl (by rw [hP]; exact Try.func14) rfl (by decide) (c2)) rfl rfl rfl ?_ | refine LOps.whenC (LVal.call rfl rfl (by rw [hP]; exact Try.func14) rfl (by decide) (c2)) ?_ | refine LOps.valA ?_ | refine LOps.outA ?_ | refine LOps.whenA ?_ | refine LOps.pickA ?_ | refine LOps.storeA ?_)
  rotate_left
  · have hcl := cntK_le n.keys k
    repeat (first | refine LOps.nil ?_ | refine andThen_normal ?_ | refine andThen_exit ?_ | refine andThen_ret ?_ | refine inBlock_normal ?_ | refine inBlock_ret ?_ | refine inBlock_here ?_ | refine inBlock_out rfl ?_ | refine LWp.seq ?_ | refine LWp.region ?_ | refine LWp.block ?_ | refine LWp.exit ?_ | refine LWp.ret ?_ | refine LWp.skip ?_ | refine LOps.valA ?_ | refine LOps.outA ?_ | refine LOps.whenA ?_ | refine LOps.pickA ?_ | refine LOps.storeA ?_)
    refine LWp.cond rfl (fun hh => ?_) (fun hh => ?_)
    · have hh : hasK n.keys k = true := hh
      repeat (first | refine LOps.nil ?_ | refine andThen_normal ?_ | refine andThen_exit ?_ | refine andThen_ret ?_ | refine inBlock_normal ?_ | refine inBlock_ret ?_ | refine inBlock_here ?_ | refine inBlock_out rfl ?_ | refine LWp.seq ?_ | refine LWp.region ?_ | refine LWp.block ?_ | refine LWp.exit ?_ | refine LWp.ret ?_ | refine LWp.skip ?_ | refine LOps.valA ?_ | refine LOps.outA ?_ | refine LOps.whenA ?_ | refine LOps.pickA ?_ | refine LOps.storeA ?_)
      exact ⟨rfl, _, holds.over ⟨rfl, rfl, by rw [idxN, if_pos hh]; rfl, trivial⟩⟩
    · have hh : hasK n.keys k = false := hh
      repeat (first | refine LOps.nil ?_ | refine andThen_normal ?_ | refine andThen_exit ?_ | refine andThen_ret ?_ | refine inBlock_normal ?_ | refine inBlock_ret ?_ | refine inBlock_here ?_ | refine inBlock_out rfl ?_ | refine LWp.seq ?_ | refine LWp.region ?_ | refine LWp.block ?_ | refine LWp.exit ?_ | refine LWp.ret ?_ | refine LWp.skip ?_ | refine LOps.valA ?_ | refine LOps.outA ?_ | refine LOps.whenA ?_ | refine LOps.pickA ?_ | refine LOps.storeA ?_)
      exact ⟨rfl, _, holds.over ⟨rfl, rfl, by rw [idxN, if_neg (by rw [hh]; decide)]; rfl, trivial⟩⟩
  rintro _ S5 ⟨hS5, T5, rfl⟩
  subst hS5
  repeat (first | refine LOps.nil ?_ | refine andThen_normal ?_ | refine andThen_exit ?_ | refine andThen_ret ?_ | refine inBlock_normal ?_ | refine inBlock_ret ?_ | refine inBlock_here ?_ | refine inBlock_out rfl ?_ | refine LWp.seq ?_ | refine LWp.region ?_ | refine LWp.block ?_ | refine LWp.exit ?_ | refine LWp.ret ?_ | refine LWp.skip ?_ | refine LOps.valA ?_ | refine LOps.outA ?_ | refine LOps.whenA ?_ | refine LOps.pickA ?_)
  refine LOps.storeA (b := b4) (off := 0) (cs := hdL noHd) (l := hdL n.kids[idxN n k]) ?_
  refine LOps.gen (fun S' => S.le S' ∧ S'.box b2 = some (ndL n) ∧ S'.box b4 = some (hdL n.kids[idxN n k])) ⟨hle.setBox s4 _, (box_set_ne _ _ n2_4).trans k2, (box_set _ _ _).trans (congrArg some (rfl))⟩ ?_
  clear hle k2 k4
  rintro Ss ⟨hle, k2, k4⟩
  repeat (first | refine LOps.nil ?_ | refine andThen_normal ?_ | refine andThen_exit ?_ | refine andThen_ret ?_ | refine inBlock_normal ?_ | refine inBlock_ret ?_ | refine inBlock_here ?_ | refine inBlock_out rfl ?_ | refine LWp.seq ?_ | refine LWp.region ?_ | refine LWp.block ?_ | refine LWp.exit ?_ | refine LWp.ret ?_ | refine LWp.skip ?_ | refine LOps.valA ?_ | refine LOps.outA ?_ | refine LOps.whenA ?_ | refine LOps.pickA ?_ | refine LOps.storeA ?_)
  exact ⟨_, hdRes hP rfl rfl k4 rfl, rfl, hle⟩
end Go.Proofs.Ytjcpcgneghanfaa.LF
