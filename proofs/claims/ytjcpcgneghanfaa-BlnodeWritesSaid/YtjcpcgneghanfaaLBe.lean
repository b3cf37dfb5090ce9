/- The B-link node: the walk of Delete. -/
import Derived.Test.YtjcpcgneghanfaaLBd
set_option linter.unusedVariables false
set_option linter.unusedSimpArgs false
namespace Go.Proofs.Ytjcpcgneghanfaa.LF
open Go.RowKit
set_option linter.unusedVariables false

theorem orNotT {a b : Bool} (h : (!a || !b) = true) : (a && b) = false := by cases a <;> cases b <;> first | rfl | cases h
theorem orNotF {a b : Bool} (h : (!a || !b) = false) : (a && b) = true := by cases a <;> cases b <;> first | rfl | cases h
def NdV.del (n : NdV) (i : Nat) : NdV := { n with keys := delL' n.keys i, vals := delL' n.vals i }
def delN (n : NdV) (k : ByteArray) : NdV × ByteArray × Bool :=
  if hasK n.keys k && takesN n k then (n.del (cntK n.keys k), n.vals.getD (cntK n.keys k) noBytes, true) else (n, noBytes, false)

set_option maxHeartbeats 8000000 in
set_option maxRecDepth 10000 in
theorem delete_L {G : Ctx} (hP : G.P = Try.prog) (n : NdV) (hn : n.ok) (k : ByteArray) (S : LS) : LCalls G 27 [.agg (ndL n), .one (sv k)] (fun r S' => ∃ X Y Z, r = .tup [.agg (ndX (delN n k).1 X Y Z), .one (sv (delN n k).2.1), .one (bv (delN n k).2.2)] ∧ S.le S' ∧ Raw S S' (delN n k).1 X Y Z) S := by
  have hD : TabOK G.P D := by rw [hP]; exact hD0
  have hnk := hn.keys
  have hnv := hn.vals
  have hnh := hn.kids
  have c1 := takes_F hP n hn k
  have c2 := find_F hP n hn k
  refine LCalls.enter (fn := Try.f27) (by rw [hP]; exact Try.func27) rfl rfl ?_
  repeat (first | refine LOps.nil ?_ | refine andThen_normal ?_ | refine andThen_exit ?_ | refine andThen_ret ?_ | refine inBlock_normal ?_ | refine inBlock_ret ?_ | refine inBlock_here ?_ | refine inBlock_out rfl ?_ | refine LWp.seq ?_ | refine LWp.region ?_ | refine LWp.block ?_ | refine LWp.exit ?_ | refine LWp.ret ?_ | refine LWp.skip ?_ | refine LOps.valA ?_ | refine LOps.outA ?_ | refine LOps.whenA ?_ | refine LOps.pickA ?_ | refine LOps.storeA ?_)
  have hle := LS.le.refl S
  refine LOps.do (LDo.box rfl rfl) rfl rfl rfl ?_
  rintro _ _ ⟨b2, hb2, rfl, rfl⟩
  have s2 := hle.none hb2
  refine LOps.gen (fun S' => S.le S' ∧ S'.box b2 = some (ndL n)) ⟨hle.newBox hb2 _, box_new _ _ _⟩ ?_
  clear hle hb2 
  rintro S2 ⟨hle, k2⟩
  skip
  refine LOps.do (LDo.alloc hD rfl rfl rfl) rfl rfl rfl ?_
  rintro _ _ ⟨b4, hb4, rfl, rfl⟩
  have n2_4 := fresh_ne hb4 k2
  have m4_2 := n2_4.symm
  have s4 := hle.none hb4
  refine LOps.gen (fun S' => S.le S' ∧ S'.box b2 = some (ndL n) ∧ S'.box b4 = some (ndX noNd (.sl .nil []) (.sl .nil []) (.sl .nil []))) ⟨hle.newBox hb4 _, (box_new_ne _ _ n2_4).trans k2, box_new _ _ _⟩ ?_
  clear hle hb4 k2
  rintro S4 ⟨hle, k2, k4⟩
  repeat (first | refine LOps.valH (LVal.load hD rfl rfl k2 rfl rfl) ?_ | refine LOps.nil ?_ | refine andThen_normal ?_ | refine andThen_exit ?_ | refine andThen_ret ?_ | refine inBlock_normal ?_ | refine inBlock_ret ?_ | refine inBlock_here ?_ | refine inBlock_out rfl ?_ | refine LWp.seq ?_ | refine LWp.region ?_ | refine LWp.block ?_ | refine LWp.exit ?_ | refine LWp.ret ?_ | refine LWp.skip ?_ | refine LOps.valA ?_ | refine LOps.outA ?_ | refine LOps.whenA ?_ | refine LOps.pickA ?_ | refine LOps.storeA ?_)
  refine LOps.do (LDo.callF (clone_L hP n hn _) (by rw [hP]; exact Try.func39)) rfl rfl rfl ?_
  rintro _ S7 ⟨X, Y, Z, rfl, le7, R⟩
  have k37 := le7.box _ _ k2
  have k67 := le7.box _ _ k4
  repeat (first | refine LOps.nil ?_ | refine andThen_normal ?_ | refine andThen_exit ?_ | refine andThen_ret ?_ | refine inBlock_normal ?_ | refine inBlock_ret ?_ | refine inBlock_here ?_ | refine inBlock_out rfl ?_ | refine LWp.seq ?_ | refine LWp.region ?_ | refine LWp.block ?_ | refine LWp.exit ?_ | refine LWp.ret ?_ | refine LWp.skip ?_ | refine LOps.valA ?_ | refine LOps.outA ?_ | refine LOps.whenA ?_ | refine LOps.pickA ?_)
  refine LOps.storeA (b := b4) (off := 0) (cs := ndX noNd (.sl .nil []) (.sl .nil []) (.sl .nil [])) (l := ndX n X Y Z) ?_
  have hno : ∀ c, (S4.box c = none) → S.box c = none := fun c hc => by
    cases hq : S.box c with
    | none => rfl
    | some cs => rw [hle.box c cs hq] at hc; cases hc
  have x3 : ∀ c, blockOf X = some c ∨ blockOf Y = some c ∨ blockOf Z = some c → c ≠ b2 ∧ c ≠ b4 := fun c hc => by
    have h0 : S4.box c = none := by
      rcases hc with h | h | h
      · exact R.nx c h
      · exact R.ny c h
      · exact R.nz c h
    refine ⟨fun e => ?_, fun e => ?_⟩
    · rw [e, k2] at h0; cases h0
    · rw [e, k4] at h0; cases h0
  have R0 : Raw S S7 n X Y Z := ⟨R.x, R.y, R.z, fun c h => hno c (R.nx c h), fun c h => hno c (R.ny c h), fun c h => hno c (R.nz c h), R.xy, R.xz, R.yz⟩
  refine LOps.gen (fun S' => S.le S' ∧ S'.box b2 = some (ndL n) ∧ S'.box b4 = some (ndX n X Y Z) ∧ Raw S S' n X Y Z) ⟨(hle.trans le7).setBox s4 _, (box_set_ne _ _ n2_4).trans k37, box_set _ _ _, R0.keep fun c cs hc h => (box_set_ne _ _ (x3 c h).2).trans hc⟩ ?_
  have off4 : Off X Y Z b4 := ⟨fun h => (x3 b4 (.inl h)).2 rfl, fun h => (x3 b4 (.inr (.inl h))).2 rfl, fun h => (x3 b4 (.inr (.inr h))).2 rfl⟩
  clear hno hle k2 k4 k37 k67 R R0 le7
  rintro S8 ⟨hle, k2, k4, R⟩
  repeat (first | refine LOps.valH (LVal.load hD rfl rfl k2 rfl rfl) ?_ | refine LOps.whenC (LVal.load hD rfl rfl k2 rfl rfl) ?_ | refine LOps.whenC (LVal.call rfl rfl (by rw [hP]; exact Try.func42) rfl (by decide) c1) ?_ | refine LOps.nil ?_ | refine andThen_normal ?_ | refine andThen_exit ?_ | refine andThen_ret ?_ | refine inBlock_normal ?_ | refine inBlock_ret ?_ | refine inBlock_here ?_ | refine inBlock_out rfl ?_ | refine LWp.seq ?_ | refine LWp.region ?_ | refine LWp.block ?_ | refine LWp.exit ?_ | refine LWp.ret ?_ | refine LWp.skip ?_ | refine LOps.val (LVal.call rfl rfl (by rw [hP]; exact Try.func14) rfl (by decide) (c2)) rfl rfl rfl ?_ | refine LOps.whenC (LVal.call rfl rfl (by rw [hP]; exact Try.func14) rfl (by decide) (c2)) ?_ | refine LOps.valA ?_ | refine LOps.outA ?_ | refine LOps.whenA ?_ | refine LOps.pickA ?_ | refine LOps.storeA ?_)
  refine LWp.cond rfl (fun h => ?_) (fun h => ?_)
  · have h : (!hasK n.keys k || !takesN n k) = true := h
    have h' : (hasK n.keys k && takesN n k) = false := orNotT h
    have e : delN n k = (n, noBytes, false) := by rw [delN, if_neg (by rw [h']; decide)]
    repeat (first | refine LOps.valH (LVal.load hD rfl rfl k4 rfl rfl) ?_ | refine LOps.nil ?_ | refine andThen_normal ?_ | refine andThen_exit ?_ | refine andThen_ret ?_ | refine inBlock_normal ?_ | refine inBlock_ret ?_ | refine inBlock_here ?_ | refine inBlock_out rfl ?_ | refine LWp.seq ?_ | refine LWp.region ?_ | refine LWp.block ?_ | refine LWp.exit ?_ | refine LWp.ret ?_ | refine LWp.skip ?_ | refine LOps.valA ?_ | refine LOps.outA ?_ | refine LOps.whenA ?_ | refine LOps.pickA ?_)
    refine LOps.storeA (b := b4) (off := 0) (cs := ndX n X Y Z) (l := ndX n X Y Z) ?_
    repeat (first | refine LOps.nil ?_ | refine andThen_normal ?_ | refine andThen_exit ?_ | refine andThen_ret ?_ | refine inBlock_normal ?_ | refine inBlock_ret ?_ | refine inBlock_here ?_ | refine inBlock_out rfl ?_ | refine LWp.seq ?_ | refine LWp.region ?_ | refine LWp.block ?_ | refine LWp.exit ?_ | refine LWp.ret ?_ | refine LWp.skip ?_ | refine LOps.valA ?_ | refine LOps.outA ?_ | refine LOps.whenA ?_ | refine LOps.pickA ?_ | refine LOps.storeA ?_)
    rw [e]
    exact ⟨_, ndRes3 hP rfl rfl (box_set _ _ _) rfl rfl, X, Y, Z, rfl, hle.setBox s4 _, R.set off4 _⟩
  have h : (!hasK n.keys k || !takesN n k) = false := h
  have h' : (hasK n.keys k && takesN n k) = true := orNotF h
  rw [Bool.and_eq_true] at h'
  obtain ⟨hh, ht⟩ := h'
  obtain ⟨hl, hr, hc⟩ := takesN_is ht
  obtain ⟨hvl, hkd⟩ := rightN_leaf hr hl
  obtain ⟨hlt, hkk⟩ := hasK_lt hh
  have hltv : cntK n.keys k < n.vals.length := by omega
  have e : delN n k = (n.del (cntK n.keys k), n.vals.getD (cntK n.keys k) noBytes, true) := by rw [delN, if_pos (by rw [hh, ht]; rfl)]
  rw [e, getD_key hltv]
  obtain ⟨r, c, rest, hYr, hrow⟩ := R.y.row_of (by omega)
  have hbr := hrow.box
  subst hYr
  repeat (first | refine LOps.valH (LVal.indexR hD rfl rfl rfl rfl rfl rfl (by omega) (by omega)) ?_ | refine LOps.valH (LVal.load hD rfl rfl hbr rfl (by rw [Nat.zero_add]; exact rdS hltv)) ?_ | refine LOps.nil ?_ | refine andThen_normal ?_ | refine andThen_exit ?_ | refine andThen_ret ?_ | refine inBlock_normal ?_ | refine inBlock_ret ?_ | refine inBlock_here ?_ | refine inBlock_out rfl ?_ | refine LWp.seq ?_ | refine LWp.region ?_ | refine LWp.block ?_ | refine LWp.exit ?_ | refine LWp.ret ?_ | refine LWp.skip ?_ | refine LOps.valA ?_ | refine LOps.outA ?_ | refine LOps.whenA ?_ | refine LOps.pickA ?_ | refine LOps.storeA ?_)
  refine LOps.do (LDo.callX (delS_L hP sL_len n.keys hlt X _ R.x (by omega)) (by rw [hP]; exact Try.func43)) rfl rfl rfl ?_
  rintro _ S9 ⟨X', rfl, hX', mv⟩
  obtain ⟨k69, x6⟩ := mv.box b4 _ k4 off4.1
  obtain ⟨R9, le9⟩ := R.setX hle hX' mv
  have off4 : Off X' _ Z b4 := ⟨x6, off4.2⟩
  repeat (first | refine LOps.nil ?_ | refine andThen_normal ?_ | refine andThen_exit ?_ | refine andThen_ret ?_ | refine inBlock_normal ?_ | refine inBlock_ret ?_ | refine inBlock_here ?_ | refine inBlock_out rfl ?_ | refine LWp.seq ?_ | refine LWp.region ?_ | refine LWp.block ?_ | refine LWp.exit ?_ | refine LWp.ret ?_ | refine LWp.skip ?_ | refine LOps.valA ?_ | refine LOps.outA ?_ | refine LOps.whenA ?_ | refine LOps.pickA ?_)
  refine LOps.storeA (b := b4) (off := 1) (cs := ndX n X (rsl r 0 n.vals.length c) Z) (l := [X']) ?_
  refine LOps.gen (fun S' => S.le S' ∧ S'.box b4 = some (ndX n X' (rsl r 0 n.vals.length c) Z) ∧ Raw S S' { n with keys := delL' n.keys (cntK n.keys k) } X' (rsl r 0 n.vals.length c) Z) ⟨le9.setBox s4 _, box_set _ _ _, R9.set off4 _⟩ ?_
  clear hle k2 k4 k69 R R9 le9 mv hX' x6 x3 hbr hrow
  rintro S10 ⟨hle, k4, R⟩
  repeat (first | refine LOps.nil ?_ | refine andThen_normal ?_ | refine andThen_exit ?_ | refine andThen_ret ?_ | refine inBlock_normal ?_ | refine inBlock_ret ?_ | refine inBlock_here ?_ | refine inBlock_out rfl ?_ | refine LWp.seq ?_ | refine LWp.region ?_ | refine LWp.block ?_ | refine LWp.exit ?_ | refine LWp.ret ?_ | refine LWp.skip ?_ | refine LOps.valA ?_ | refine LOps.outA ?_ | refine LOps.whenA ?_ | refine LOps.pickA ?_ | refine LOps.storeA ?_)
  refine LOps.do (LDo.callX (delS_L hP sL_len n.vals hltv (rsl r 0 n.vals.length c) _ R.y (by omega)) (by rw [hP]; exact Try.func43)) rfl rfl rfl ?_
  rintro _ S11 ⟨Y', rfl, hY', mv⟩
  obtain ⟨k69, y6⟩ := mv.box b4 _ k4 off4.2.1
  obtain ⟨R9, le9⟩ := R.setY hle hY' mv
  have off4 : Off X' Y' Z b4 := ⟨off4.1, y6, off4.2.2⟩
  repeat (first | refine LOps.nil ?_ | refine andThen_normal ?_ | refine andThen_exit ?_ | refine andThen_ret ?_ | refine inBlock_normal ?_ | refine inBlock_ret ?_ | refine inBlock_here ?_ | refine inBlock_out rfl ?_ | refine LWp.seq ?_ | refine LWp.region ?_ | refine LWp.block ?_ | refine LWp.exit ?_ | refine LWp.ret ?_ | refine LWp.skip ?_ | refine LOps.valA ?_ | refine LOps.outA ?_ | refine LOps.whenA ?_ | refine LOps.pickA ?_)
  refine LOps.storeA (b := b4) (off := 2) (cs := ndX n X' (rsl r 0 n.vals.length c) Z) (l := [Y']) ?_
  refine LOps.gen (fun S' => S.le S' ∧ S'.box b4 = some (ndX n X' Y' Z) ∧ Raw S S' (n.del (cntK n.keys k)) X' Y' Z) ⟨le9.setBox s4 _, box_set _ _ _, R9.set off4 _⟩ ?_
  clear hle k4 k69 R R9 le9 mv hY' y6
  rintro S12 ⟨hle, k4, R⟩
  repeat (first | refine LOps.valH (LVal.load hD rfl rfl k4 rfl rfl) ?_ | refine LOps.nil ?_ | refine andThen_normal ?_ | refine andThen_exit ?_ | refine andThen_ret ?_ | refine inBlock_normal ?_ | refine inBlock_ret ?_ | refine inBlock_here ?_ | refine inBlock_out rfl ?_ | refine LWp.seq ?_ | refine LWp.region ?_ | refine LWp.block ?_ | refine LWp.exit ?_ | refine LWp.ret ?_ | refine LWp.skip ?_ | refine LOps.valA ?_ | refine LOps.outA ?_ | refine LOps.whenA ?_ | refine LOps.pickA ?_)
  refine LOps.storeA (b := b4) (off := 0) (cs := ndX n X' Y' Z) (l := ndX n X' Y' Z) ?_
  repeat (first | refine LOps.nil ?_ | refine andThen_normal ?_ | refine andThen_exit ?_ | refine andThen_ret ?_ | refine inBlock_normal ?_ | refine inBlock_ret ?_ | refine inBlock_here ?_ | refine inBlock_out rfl ?_ | refine LWp.seq ?_ | refine LWp.region ?_ | refine LWp.block ?_ | refine LWp.exit ?_ | refine LWp.ret ?_ | refine LWp.skip ?_ | refine LOps.valA ?_ | refine LOps.outA ?_ | refine LOps.whenA ?_ | refine LOps.pickA ?_ | refine LOps.storeA ?_)
  exact ⟨_, ndRes3 (x := n.del (cntK n.keys k)) hP rfl rfl (box_set _ _ _) rfl rfl, X', Y', Z, rfl, hle.setBox s4 _, R.set off4 _⟩
theorem delete_F {G : Ctx} (hP : G.P = Try.prog) (n : NdV) (hn : n.ok) (k : ByteArray) : LFun G 27 [.agg (ndL n), .one (sv k)] (.tup [.agg (ndL (delN n k).1), .one (sv (delN n k).2.1), .one (bv (delN n k).2.2)]) := LFun.of fun S =>
  (delete_L hP n hn k S).frz fun r S' ⟨X, Y, Z, e, hle, R⟩ => by
    obtain ⟨S2, f1, _, l2⟩ := R.frz hle [.one (sv (delN n k).2.1), .one (bv (delN n k).2.2)]
    exact ⟨_, S2, e ▸ f1, rfl, l2⟩
end Go.Proofs.Ytjcpcgneghanfaa.LF
