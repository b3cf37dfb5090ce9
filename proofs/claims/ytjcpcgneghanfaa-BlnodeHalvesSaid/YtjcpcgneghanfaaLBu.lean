/- The walk of the law 'BlnodeHalves'. -/
import Derived.Test.YtjcpcgneghanfaaLBt
import Derived.Test.YtjcpcgneghanfaaLBs
set_option linter.unusedVariables false
set_option linter.unusedSimpArgs false
namespace Go.Proofs.Ytjcpcgneghanfaa.LF
open Go.RowKit
set_option linter.unusedVariables false

theorem noSplit_is {n : NdV} (hr : rightN n = true) : noSplit n = (decide ((n.keys.length : Int) < 2) || (!n.leaf && decide ((n.keys.length : Int) < 3))) := by
  unfold noSplit
  rw [hr, Bool.eq_iff_iff]
  cases n.leaf <;> simp <;> omega

set_option maxHeartbeats 64000000 in
set_option maxRecDepth 20000 in
theorem halves_L {G : Ctx} (hP : G.P = Try.prog) (n : NdV) (hz : n.sz) (key other text : ByteArray) (next : HdV) (S : LS) : LCalls G 9 [.agg (ndL n), .one (sv key), .one (sv other), .one (sv text), .agg (hdL next)] (fun r _ => r = .one (bv true)) S := by
  have hD : TabOK G.P D := by rw [hP]; exact hD0
  have eh : EqTy G.P D 26 := by rw [hP]; exact ⟨by kernel_rfl, by kernel_rfl⟩
  have ca := awake_F hP
  have cg := great_F hP n hz
  refine LCalls.enter (fn := Try.f9) (by rw [hP]; exact Try.func9) rfl rfl ?_
  repeat (first | refine LOps.nil ?_ | refine andThen_normal ?_ | refine andThen_exit ?_ | refine andThen_ret ?_ | refine inBlock_normal ?_ | refine inBlock_ret ?_ | refine inBlock_here ?_ | refine inBlock_out rfl ?_ | refine LWp.seq ?_ | refine LWp.region ?_ | refine LWp.block ?_ | refine LWp.exit ?_ | refine LWp.ret ?_ | refine LWp.skip ?_ | refine LOps.valA ?_ | refine LOps.outA ?_ | refine LOps.whenA ?_ | refine LOps.pickA ?_ | refine LOps.storeA ?_)
  have hle := LS.le.refl S
  refine LOps.do (LDo.box rfl rfl) rfl rfl rfl ?_
  rintro _ _ ⟨b5, hb5, rfl, rfl⟩
  have s5 := hle.none hb5
  refine LOps.gen (fun S' => S.le S' ∧ S'.box b5 = some (ndL n)) ⟨hle.newBox hb5 _, box_new _ _ _⟩ ?_
  clear hle hb5 
  rintro S5 ⟨hle, k5⟩
  skip
  refine LOps.do (LDo.box rfl rfl) rfl rfl rfl ?_
  rintro _ _ ⟨b9, hb9, rfl, rfl⟩
  have n5_9 := fresh_ne hb9 k5
  have m9_5 := n5_9.symm
  have s9 := hle.none hb9
  refine LOps.gen (fun S' => S.le S' ∧ S'.box b5 = some (ndL n) ∧ S'.box b9 = some (hdL next)) ⟨hle.newBox hb9 _, (box_new_ne _ _ n5_9).trans k5, box_new _ _ _⟩ ?_
  clear hle hb9 k5
  rintro S9 ⟨hle, k5, k9⟩
  repeat (first | refine LOps.nil ?_ | refine andThen_normal ?_ | refine andThen_exit ?_ | refine andThen_ret ?_ | refine inBlock_normal ?_ | refine inBlock_ret ?_ | refine inBlock_here ?_ | refine inBlock_out rfl ?_ | refine LWp.seq ?_ | refine LWp.region ?_ | refine LWp.block ?_ | refine LWp.exit ?_ | refine LWp.ret ?_ | refine LWp.skip ?_ | refine LOps.val (LVal.call rfl rfl (by rw [hP]; exact Try.func10) rfl (by decide) (ca)) rfl rfl rfl ?_ | refine LOps.whenC (LVal.call rfl rfl (by rw [hP]; exact Try.func10) rfl (by decide) (ca)) ?_ | refine LOps.valA ?_ | refine LOps.outA ?_ | refine LOps.whenA ?_ | refine LOps.pickA ?_ | refine LOps.storeA ?_)
  refine LWp.condF rfl ?_
  repeat (first | refine LOps.valH (LVal.load hD rfl rfl k5 rfl rfl) ?_ | refine LOps.nil ?_ | refine andThen_normal ?_ | refine andThen_exit ?_ | refine andThen_ret ?_ | refine inBlock_normal ?_ | refine inBlock_ret ?_ | refine inBlock_here ?_ | refine inBlock_out rfl ?_ | refine LWp.seq ?_ | refine LWp.region ?_ | refine LWp.block ?_ | refine LWp.exit ?_ | refine LWp.ret ?_ | refine LWp.skip ?_ | refine LOps.val (LVal.call rfl rfl (by rw [hP]; exact Try.func11) rfl (by decide) (cg)) rfl rfl rfl ?_ | refine LOps.whenC (LVal.call rfl rfl (by rw [hP]; exact Try.func11) rfl (by decide) (cg)) ?_ | refine LOps.valA ?_ | refine LOps.outA ?_ | refine LOps.whenA ?_ | refine LOps.pickA ?_ | refine LOps.storeA ?_)
  refine LWp.cond rfl (fun h => ?_) (fun h => ?_)
  · repeat (first | refine LOps.nil ?_ | refine andThen_normal ?_ | refine andThen_exit ?_ | refine andThen_ret ?_ | refine inBlock_normal ?_ | refine inBlock_ret ?_ | refine inBlock_here ?_ | refine inBlock_out rfl ?_ | refine LWp.seq ?_ | refine LWp.region ?_ | refine LWp.block ?_ | refine LWp.exit ?_ | refine LWp.ret ?_ | refine LWp.skip ?_ | refine LOps.valA ?_ | refine LOps.outA ?_ | refine LOps.whenA ?_ | refine LOps.pickA ?_ | refine LOps.storeA ?_)
    exact ⟨_, LRes.one rfl, rfl⟩
  have h : (((greatN n || decide ((key.size : Int) > 20000)) || decide ((other.size : Int) > 20000)) || decide ((text.size : Int) > 20000)) = false := h
  simp only [Bool.or_eq_false_iff] at h
  have hg := greatN_ok h.1.1.1
  clear h
  have hn : n.ok := ⟨by omega, by omega, by omega⟩
  have hml : (n.keys.map sL).length = n.keys.length := List.length_map ..
  have c16 := right_F hP n hn
  have c26 := put_F hP n hn key text
  have c24 := split_F hP n hn next
  have ce := equal_F hP n n hn
  cases hr : rightN n with
  | false =>
    rw [hr] at c16
    rw [put_no (takes_wrong hr)] at c26
    rw [split_no (show noSplit n = true by unfold noSplit; rw [hr]; rfl)] at c24
    repeat (first | refine LOps.valH (LVal.load hD rfl rfl k5 rfl rfl) ?_ | refine LOps.nil ?_ | refine andThen_normal ?_ | refine andThen_exit ?_ | refine andThen_ret ?_ | refine inBlock_normal ?_ | refine inBlock_ret ?_ | refine inBlock_here ?_ | refine inBlock_out rfl ?_ | refine LWp.seq ?_ | refine LWp.region ?_ | refine LWp.block ?_ | refine LWp.exit ?_ | refine LWp.ret ?_ | refine LWp.skip ?_ | refine LOps.val (LVal.call rfl rfl (by rw [hP]; exact Try.func16) rfl (by decide) (c16)) rfl rfl rfl ?_ | refine LOps.whenC (LVal.call rfl rfl (by rw [hP]; exact Try.func16) rfl (by decide) (c16)) ?_ | refine LOps.valA ?_ | refine LOps.outA ?_ | refine LOps.whenA ?_ | refine LOps.pickA ?_ | refine LOps.storeA ?_)
    refine LWp.condT rfl ?_
    repeat (first | refine LOps.valH (LVal.load hD rfl rfl k5 rfl rfl) ?_ | refine LOps.nil ?_ | refine andThen_normal ?_ | refine andThen_exit ?_ | refine andThen_ret ?_ | refine inBlock_normal ?_ | refine inBlock_ret ?_ | refine inBlock_here ?_ | refine inBlock_out rfl ?_ | refine LWp.seq ?_ | refine LWp.region ?_ | refine LWp.block ?_ | refine LWp.exit ?_ | refine LWp.ret ?_ | refine LWp.skip ?_ | refine LOps.val (LVal.call rfl rfl (by rw [hP]; exact Try.func26) rfl (by decide) (c26)) rfl rfl rfl ?_ | refine LOps.whenC (LVal.call rfl rfl (by rw [hP]; exact Try.func26) rfl (by decide) (c26)) ?_ | refine LOps.valA ?_ | refine LOps.outA ?_ | refine LOps.whenA ?_ | refine LOps.pickA ?_ | refine LOps.storeA ?_)
    skip
    refine LOps.do (LDo.alloc hD rfl rfl rfl) rfl rfl rfl ?_
    rintro _ _ ⟨b11, hb11, rfl, rfl⟩
    have n5_11 := fresh_ne hb11 k5
    have m11_5 := n5_11.symm
    have n9_11 := fresh_ne hb11 k9
    have m11_9 := n9_11.symm
    have s11 := hle.none hb11
    refine LOps.gen (fun S' => S.le S' ∧ S'.box b5 = some (ndL n) ∧ S'.box b9 = some (hdL next) ∧ S'.box b11 = some (ndX noNd (.sl .nil []) (.sl .nil []) (.sl .nil []))) ⟨hle.newBox hb11 _, (box_new_ne _ _ n5_11).trans k5, (box_new_ne _ _ n9_11).trans k9, box_new _ _ _⟩ ?_
    clear hle hb11 k5 k9
    rintro S11 ⟨hle, k5, k9, k11⟩
    repeat (first | refine LOps.nil ?_ | refine andThen_normal ?_ | refine andThen_exit ?_ | refine andThen_ret ?_ | refine inBlock_normal ?_ | refine inBlock_ret ?_ | refine inBlock_here ?_ | refine inBlock_out rfl ?_ | refine LWp.seq ?_ | refine LWp.region ?_ | refine LWp.block ?_ | refine LWp.exit ?_ | refine LWp.ret ?_ | refine LWp.skip ?_ | refine LOps.valA ?_ | refine LOps.outA ?_ | refine LOps.whenA ?_ | refine LOps.pickA ?_)
    refine LOps.storeA (b := b11) (off := 0) (cs := ndX noNd (.sl .nil []) (.sl .nil []) (.sl .nil [])) (l := ndL n) ?_
    refine LOps.gen (fun S' => S.le S' ∧ S'.box b5 = some (ndL n) ∧ S'.box b9 = some (hdL next) ∧ S'.box b11 = some (ndL n)) ⟨hle.setBox s11 _, (box_set_ne _ _ n5_11).trans k5, (box_set_ne _ _ n9_11).trans k9, (box_set _ _ _).trans (congrArg some (rfl))⟩ ?_
    clear hle k5 k9 k11
    rintro Ss ⟨hle, k5, k9, k11⟩
    repeat (first | refine LOps.valH (LVal.load hD rfl rfl k5 rfl rfl) ?_ | refine LOps.valH (LVal.load hD rfl rfl k9 rfl rfl) ?_ | refine LOps.nil ?_ | refine andThen_normal ?_ | refine andThen_exit ?_ | refine andThen_ret ?_ | refine inBlock_normal ?_ | refine inBlock_ret ?_ | refine inBlock_here ?_ | refine inBlock_out rfl ?_ | refine LWp.seq ?_ | refine LWp.region ?_ | refine LWp.block ?_ | refine LWp.exit ?_ | refine LWp.ret ?_ | refine LWp.skip ?_ | refine LOps.val (LVal.call rfl rfl (by rw [hP]; exact Try.func24) rfl (by decide) (c24)) rfl rfl rfl ?_ | refine LOps.whenC (LVal.call rfl rfl (by rw [hP]; exact Try.func24) rfl (by decide) (c24)) ?_ | refine LOps.valA ?_ | refine LOps.outA ?_ | refine LOps.whenA ?_ | refine LOps.pickA ?_ | refine LOps.storeA ?_)
    skip
    refine LOps.do (LDo.alloc hD rfl rfl rfl) rfl rfl rfl ?_
    rintro _ _ ⟨b14, hb14, rfl, rfl⟩
    have n5_14 := fresh_ne hb14 k5
    have m14_5 := n5_14.symm
    have n9_14 := fresh_ne hb14 k9
    have m14_9 := n9_14.symm
    have n11_14 := fresh_ne hb14 k11
    have m14_11 := n11_14.symm
    have s14 := hle.none hb14
    refine LOps.gen (fun S' => S.le S' ∧ S'.box b5 = some (ndL n) ∧ S'.box b9 = some (hdL next) ∧ S'.box b11 = some (ndL n) ∧ S'.box b14 = some (ndX noNd (.sl .nil []) (.sl .nil []) (.sl .nil []))) ⟨hle.newBox hb14 _, (box_new_ne _ _ n5_14).trans k5, (box_new_ne _ _ n9_14).trans k9, (box_new_ne _ _ n11_14).trans k11, box_new _ _ _⟩ ?_
    clear hle hb14 k5 k9 k11
    rintro S14 ⟨hle, k5, k9, k11, k14⟩
    skip
    refine LOps.do (LDo.alloc hD rfl rfl rfl) rfl rfl rfl ?_
    rintro _ _ ⟨b15, hb15, rfl, rfl⟩
    have n5_15 := fresh_ne hb15 k5
    have m15_5 := n5_15.symm
    have n9_15 := fresh_ne hb15 k9
    have m15_9 := n9_15.symm
    have n11_15 := fresh_ne hb15 k11
    have m15_11 := n11_15.symm
    have n14_15 := fresh_ne hb15 k14
    have m15_14 := n14_15.symm
    have s15 := hle.none hb15
    refine LOps.gen (fun S' => S.le S' ∧ S'.box b5 = some (ndL n) ∧ S'.box b9 = some (hdL next) ∧ S'.box b11 = some (ndL n) ∧ S'.box b14 = some (ndX noNd (.sl .nil []) (.sl .nil []) (.sl .nil [])) ∧ S'.box b15 = some (ndX noNd (.sl .nil []) (.sl .nil []) (.sl .nil []))) ⟨hle.newBox hb15 _, (box_new_ne _ _ n5_15).trans k5, (box_new_ne _ _ n9_15).trans k9, (box_new_ne _ _ n11_15).trans k11, (box_new_ne _ _ n14_15).trans k14, box_new _ _ _⟩ ?_
    clear hle hb15 k5 k9 k11 k14
    rintro S15 ⟨hle, k5, k9, k11, k14, k15⟩
    repeat (first | refine LOps.nil ?_ | refine andThen_normal ?_ | refine andThen_exit ?_ | refine andThen_ret ?_ | refine inBlock_normal ?_ | refine inBlock_ret ?_ | refine inBlock_here ?_ | refine inBlock_out rfl ?_ | refine LWp.seq ?_ | refine LWp.region ?_ | refine LWp.block ?_ | refine LWp.exit ?_ | refine LWp.ret ?_ | refine LWp.skip ?_ | refine LOps.valA ?_ | refine LOps.outA ?_ | refine LOps.whenA ?_ | refine LOps.pickA ?_)
    refine LOps.storeA (b := b14) (off := 0) (cs := ndX noNd (.sl .nil []) (.sl .nil []) (.sl .nil [])) (l := ndL n) ?_
    refine LOps.gen (fun S' => S.le S' ∧ S'.box b5 = some (ndL n) ∧ S'.box b9 = some (hdL next) ∧ S'.box b11 = some (ndL n) ∧ S'.box b14 = some (ndL n) ∧ S'.box b15 = some (ndX noNd (.sl .nil []) (.sl .nil []) (.sl .nil []))) ⟨hle.setBox s14 _, (box_set_ne _ _ n5_14).trans k5, (box_set_ne _ _ n9_14).trans k9, (box_set_ne _ _ n11_14).trans k11, (box_set _ _ _).trans (congrArg some (rfl)), (box_set_ne _ _ m15_14).trans k15⟩ ?_
    clear hle k5 k9 k11 k14 k15
    rintro Ss ⟨hle, k5, k9, k11, k14, k15⟩
    refine LOps.storeA (b := b15) (off := 0) (cs := ndX noNd (.sl .nil []) (.sl .nil []) (.sl .nil [])) (l := ndL noNd) ?_
    refine LOps.gen (fun S' => S.le S' ∧ S'.box b5 = some (ndL n) ∧ S'.box b9 = some (hdL next) ∧ S'.box b11 = some (ndL n) ∧ S'.box b14 = some (ndL n) ∧ S'.box b15 = some (ndL noNd)) ⟨hle.setBox s15 _, (box_set_ne _ _ n5_15).trans k5, (box_set_ne _ _ n9_15).trans k9, (box_set_ne _ _ n11_15).trans k11, (box_set_ne _ _ n14_15).trans k14, (box_set _ _ _).trans (congrArg some (rfl))⟩ ?_
    clear hle k5 k9 k11 k14 k15
    rintro Ss ⟨hle, k5, k9, k11, k14, k15⟩
    repeat (first | refine LOps.valH (LVal.load hD rfl rfl k5 rfl rfl) ?_ | refine LOps.valH (LVal.load hD rfl rfl k11 rfl rfl) ?_ | refine LOps.valH (LVal.load hD rfl rfl k14 rfl rfl) ?_ | refine LOps.nil ?_ | refine andThen_normal ?_ | refine andThen_exit ?_ | refine andThen_ret ?_ | refine inBlock_normal ?_ | refine inBlock_ret ?_ | refine inBlock_here ?_ | refine inBlock_out rfl ?_ | refine LWp.seq ?_ | refine LWp.region ?_ | refine LWp.block ?_ | refine LWp.exit ?_ | refine LWp.ret ?_ | refine LWp.skip ?_ | refine LOps.val (LVal.call rfl rfl (by rw [hP]; exact Try.func22) rfl (by decide) (ce)) rfl rfl rfl ?_ | refine LOps.whenC (LVal.call rfl rfl (by rw [hP]; exact Try.func22) rfl (by decide) (ce)) ?_ | refine LOps.valA ?_ | refine LOps.outA ?_ | refine LOps.whenA ?_ | refine LOps.pickA ?_ | refine LOps.storeA ?_)
    refine ⟨_, LRes.one rfl, ?_⟩
    show TV.one (bv ((decide (n = n) && decide (n = n)) && decide (noBytes = noBytes))) = _
    simp
  | true =>
    rw [hr] at c16
    have C := ch_of hr hg key other text
    obtain ⟨A1, A2⟩ := add_all hr hg key next
    have c27 := delete_F hP n hn key
    have c21 := add_F hP n hn key next
    generalize putN n key text = pa at *
    generalize delN n key = pb at *
    obtain ⟨a, w1, had⟩ := pa
    obtain ⟨b, w2, there⟩ := pb
    have c26 : LFun G 26 [.agg (ndL n), .one (sv key), .one (sv text)] (.tup [.agg (ndL a), .one (sv w1), .one (bv had)]) := c26
    have c27 : LFun G 27 [.agg (ndL n), .one (sv key)] (.tup [.agg (ndL b), .one (sv w2), .one (bv there)]) := c27
    have C : Ch n key other text a b had there := C
    obtain rfl := C.eq
    generalize addN n key next = c at *
    have c31 := right_F hP a C.oa
    have c32 := right_F hP b C.ob
    have c33 := right_F hP c A2
    rw [C.ra] at c31
    rw [C.rb] at c32
    rw [A1] at c33
    repeat (first | refine LOps.valH (LVal.load hD rfl rfl k5 rfl rfl) ?_ | refine LOps.nil ?_ | refine andThen_normal ?_ | refine andThen_exit ?_ | refine andThen_ret ?_ | refine inBlock_normal ?_ | refine inBlock_ret ?_ | refine inBlock_here ?_ | refine inBlock_out rfl ?_ | refine LWp.seq ?_ | refine LWp.region ?_ | refine LWp.block ?_ | refine LWp.exit ?_ | refine LWp.ret ?_ | refine LWp.skip ?_ | refine LOps.val (LVal.call rfl rfl (by rw [hP]; exact Try.func16) rfl (by decide) (c16)) rfl rfl rfl ?_ | refine LOps.whenC (LVal.call rfl rfl (by rw [hP]; exact Try.func16) rfl (by decide) (c16)) ?_ | refine LOps.valA ?_ | refine LOps.outA ?_ | refine LOps.whenA ?_ | refine LOps.pickA ?_ | refine LOps.storeA ?_)
    refine LWp.condF rfl ?_
    repeat (first | refine LOps.valH (LVal.load hD rfl rfl k5 rfl rfl) ?_ | refine LOps.nil ?_ | refine andThen_normal ?_ | refine andThen_exit ?_ | refine andThen_ret ?_ | refine inBlock_normal ?_ | refine inBlock_ret ?_ | refine inBlock_here ?_ | refine inBlock_out rfl ?_ | refine LWp.seq ?_ | refine LWp.region ?_ | refine LWp.block ?_ | refine LWp.exit ?_ | refine LWp.ret ?_ | refine LWp.skip ?_ | refine LOps.val (LVal.call rfl rfl (by rw [hP]; exact Try.func26) rfl (by decide) (c26)) rfl rfl rfl ?_ | refine LOps.whenC (LVal.call rfl rfl (by rw [hP]; exact Try.func26) rfl (by decide) (c26)) ?_ | refine LOps.valA ?_ | refine LOps.outA ?_ | refine LOps.whenA ?_ | refine LOps.pickA ?_ | refine LOps.storeA ?_)
    skip
    refine LOps.do (LDo.alloc hD rfl rfl rfl) rfl rfl rfl ?_
    rintro _ _ ⟨b17, hb17, rfl, rfl⟩
    have n5_17 := fresh_ne hb17 k5
    have m17_5 := n5_17.symm
    have n9_17 := fresh_ne hb17 k9
    have m17_9 := n9_17.symm
    have s17 := hle.none hb17
    refine LOps.gen (fun S' => S.le S' ∧ S'.box b5 = some (ndL n) ∧ S'.box b9 = some (hdL next) ∧ S'.box b17 = some (ndX noNd (.sl .nil []) (.sl .nil []) (.sl .nil []))) ⟨hle.newBox hb17 _, (box_new_ne _ _ n5_17).trans k5, (box_new_ne _ _ n9_17).trans k9, box_new _ _ _⟩ ?_
    clear hle hb17 k5 k9
    rintro S17 ⟨hle, k5, k9, k17⟩
    repeat (first | refine LOps.nil ?_ | refine andThen_normal ?_ | refine andThen_exit ?_ | refine andThen_ret ?_ | refine inBlock_normal ?_ | refine inBlock_ret ?_ | refine inBlock_here ?_ | refine inBlock_out rfl ?_ | refine LWp.seq ?_ | refine LWp.region ?_ | refine LWp.block ?_ | refine LWp.exit ?_ | refine LWp.ret ?_ | refine LWp.skip ?_ | refine LOps.valA ?_ | refine LOps.outA ?_ | refine LOps.whenA ?_ | refine LOps.pickA ?_)
    refine LOps.storeA (b := b17) (off := 0) (cs := ndX noNd (.sl .nil []) (.sl .nil []) (.sl .nil [])) (l := ndL a) ?_
    refine LOps.gen (fun S' => S.le S' ∧ S'.box b5 = some (ndL n) ∧ S'.box b9 = some (hdL next) ∧ S'.box b17 = some (ndL a)) ⟨hle.setBox s17 _, (box_set_ne _ _ n5_17).trans k5, (box_set_ne _ _ n9_17).trans k9, (box_set _ _ _).trans (congrArg some (rfl))⟩ ?_
    clear hle k5 k9 k17
    rintro Ss ⟨hle, k5, k9, k17⟩
    repeat (first | refine LOps.valH (LVal.load hD rfl rfl k5 rfl rfl) ?_ | refine LOps.nil ?_ | refine andThen_normal ?_ | refine andThen_exit ?_ | refine andThen_ret ?_ | refine inBlock_normal ?_ | refine inBlock_ret ?_ | refine inBlock_here ?_ | refine inBlock_out rfl ?_ | refine LWp.seq ?_ | refine LWp.region ?_ | refine LWp.block ?_ | refine LWp.exit ?_ | refine LWp.ret ?_ | refine LWp.skip ?_ | refine LOps.val (LVal.call rfl rfl (by rw [hP]; exact Try.func27) rfl (by decide) (c27)) rfl rfl rfl ?_ | refine LOps.whenC (LVal.call rfl rfl (by rw [hP]; exact Try.func27) rfl (by decide) (c27)) ?_ | refine LOps.valA ?_ | refine LOps.outA ?_ | refine LOps.whenA ?_ | refine LOps.pickA ?_ | refine LOps.storeA ?_)
    skip
    refine LOps.do (LDo.alloc hD rfl rfl rfl) rfl rfl rfl ?_
    rintro _ _ ⟨b20, hb20, rfl, rfl⟩
    have n5_20 := fresh_ne hb20 k5
    have m20_5 := n5_20.symm
    have n9_20 := fresh_ne hb20 k9
    have m20_9 := n9_20.symm
    have n17_20 := fresh_ne hb20 k17
    have m20_17 := n17_20.symm
    have s20 := hle.none hb20
    refine LOps.gen (fun S' => S.le S' ∧ S'.box b5 = some (ndL n) ∧ S'.box b9 = some (hdL next) ∧ S'.box b17 = some (ndL a) ∧ S'.box b20 = some (ndX noNd (.sl .nil []) (.sl .nil []) (.sl .nil []))) ⟨hle.newBox hb20 _, (box_new_ne _ _ n5_20).trans k5, (box_new_ne _ _ n9_20).trans k9, (box_new_ne _ _ n17_20).trans k17, box_new _ _ _⟩ ?_
    clear hle hb20 k5 k9 k17
    rintro S20 ⟨hle, k5, k9, k17, k20⟩
    repeat (first | refine LOps.nil ?_ | refine andThen_normal ?_ | refine andThen_exit ?_ | refine andThen_ret ?_ | refine inBlock_normal ?_ | refine inBlock_ret ?_ | refine inBlock_here ?_ | refine inBlock_out rfl ?_ | refine LWp.seq ?_ | refine LWp.region ?_ | refine LWp.block ?_ | refine LWp.exit ?_ | refine LWp.ret ?_ | refine LWp.skip ?_ | refine LOps.valA ?_ | refine LOps.outA ?_ | refine LOps.whenA ?_ | refine LOps.pickA ?_)
    refine LOps.storeA (b := b20) (off := 0) (cs := ndX noNd (.sl .nil []) (.sl .nil []) (.sl .nil [])) (l := ndL b) ?_
    refine LOps.gen (fun S' => S.le S' ∧ S'.box b5 = some (ndL n) ∧ S'.box b9 = some (hdL next) ∧ S'.box b17 = some (ndL a) ∧ S'.box b20 = some (ndL b)) ⟨hle.setBox s20 _, (box_set_ne _ _ n5_20).trans k5, (box_set_ne _ _ n9_20).trans k9, (box_set_ne _ _ n17_20).trans k17, (box_set _ _ _).trans (congrArg some (rfl))⟩ ?_
    clear hle k5 k9 k17 k20
    rintro Ss ⟨hle, k5, k9, k17, k20⟩
    repeat (first | refine LOps.valH (LVal.load hD rfl rfl k5 rfl rfl) ?_ | refine LOps.valH (LVal.load hD rfl rfl k9 rfl rfl) ?_ | refine LOps.nil ?_ | refine andThen_normal ?_ | refine andThen_exit ?_ | refine andThen_ret ?_ | refine inBlock_normal ?_ | refine inBlock_ret ?_ | refine inBlock_here ?_ | refine inBlock_out rfl ?_ | refine LWp.seq ?_ | refine LWp.region ?_ | refine LWp.block ?_ | refine LWp.exit ?_ | refine LWp.ret ?_ | refine LWp.skip ?_ | refine LOps.val (LVal.call rfl rfl (by rw [hP]; exact Try.func21) rfl (by decide) (c21)) rfl rfl rfl ?_ | refine LOps.whenC (LVal.call rfl rfl (by rw [hP]; exact Try.func21) rfl (by decide) (c21)) ?_ | refine LOps.valA ?_ | refine LOps.outA ?_ | refine LOps.whenA ?_ | refine LOps.pickA ?_ | refine LOps.storeA ?_)
    skip
    refine LOps.do (LDo.alloc hD rfl rfl rfl) rfl rfl rfl ?_
    rintro _ _ ⟨b23, hb23, rfl, rfl⟩
    have n5_23 := fresh_ne hb23 k5
    have m23_5 := n5_23.symm
    have n9_23 := fresh_ne hb23 k9
    have m23_9 := n9_23.symm
    have n17_23 := fresh_ne hb23 k17
    have m23_17 := n17_23.symm
    have n20_23 := fresh_ne hb23 k20
    have m23_20 := n20_23.symm
    have s23 := hle.none hb23
    refine LOps.gen (fun S' => S.le S' ∧ S'.box b5 = some (ndL n) ∧ S'.box b9 = some (hdL next) ∧ S'.box b17 = some (ndL a) ∧ S'.box b20 = some (ndL b) ∧ S'.box b23 = some (ndX noNd (.sl .nil []) (.sl .nil []) (.sl .nil []))) ⟨hle.newBox hb23 _, (box_new_ne _ _ n5_23).trans k5, (box_new_ne _ _ n9_23).trans k9, (box_new_ne _ _ n17_23).trans k17, (box_new_ne _ _ n20_23).trans k20, box_new _ _ _⟩ ?_
    clear hle hb23 k5 k9 k17 k20
    rintro S23 ⟨hle, k5, k9, k17, k20, k23⟩
    repeat (first | refine LOps.nil ?_ | refine andThen_normal ?_ | refine andThen_exit ?_ | refine andThen_ret ?_ | refine inBlock_normal ?_ | refine inBlock_ret ?_ | refine inBlock_here ?_ | refine inBlock_out rfl ?_ | refine LWp.seq ?_ | refine LWp.region ?_ | refine LWp.block ?_ | refine LWp.exit ?_ | refine LWp.ret ?_ | refine LWp.skip ?_ | refine LOps.valA ?_ | refine LOps.outA ?_ | refine LOps.whenA ?_ | refine LOps.pickA ?_)
    refine LOps.storeA (b := b23) (off := 0) (cs := ndX noNd (.sl .nil []) (.sl .nil []) (.sl .nil [])) (l := ndL c) ?_
    refine LOps.gen (fun S' => S.le S' ∧ S'.box b5 = some (ndL n) ∧ S'.box b9 = some (hdL next) ∧ S'.box b17 = some (ndL a) ∧ S'.box b20 = some (ndL b) ∧ S'.box b23 = some (ndL c)) ⟨hle.setBox s23 _, (box_set_ne _ _ n5_23).trans k5, (box_set_ne _ _ n9_23).trans k9, (box_set_ne _ _ n17_23).trans k17, (box_set_ne _ _ n20_23).trans k20, (box_set _ _ _).trans (congrArg some (rfl))⟩ ?_
    clear hle k5 k9 k17 k20 k23
    rintro Ss ⟨hle, k5, k9, k17, k20, k23⟩
    repeat (first | refine LOps.valH (LVal.load hD rfl rfl k17 rfl rfl) ?_ | refine LOps.valH (LVal.load hD rfl rfl k20 rfl rfl) ?_ | refine LOps.valH (LVal.load hD rfl rfl k23 rfl rfl) ?_ | refine LOps.nil ?_ | refine andThen_normal ?_ | refine andThen_exit ?_ | refine andThen_ret ?_ | refine inBlock_normal ?_ | refine inBlock_ret ?_ | refine inBlock_here ?_ | refine inBlock_out rfl ?_ | refine LWp.seq ?_ | refine LWp.region ?_ | refine LWp.block ?_ | refine LWp.exit ?_ | refine LWp.ret ?_ | refine LWp.skip ?_ | refine LOps.val (LVal.call rfl rfl (by rw [hP]; exact Try.func16) rfl (by decide) (c31)) rfl rfl rfl ?_ | refine LOps.val (LVal.call rfl rfl (by rw [hP]; exact Try.func16) rfl (by decide) (c32)) rfl rfl rfl ?_ | refine LOps.val (LVal.call rfl rfl (by rw [hP]; exact Try.func16) rfl (by decide) (c33)) rfl rfl rfl ?_ | refine LOps.whenC (LVal.call rfl rfl (by rw [hP]; exact Try.func16) rfl (by decide) (c31)) ?_ | refine LOps.whenC (LVal.call rfl rfl (by rw [hP]; exact Try.func16) rfl (by decide) (c32)) ?_ | refine LOps.whenC (LVal.call rfl rfl (by rw [hP]; exact Try.func16) rfl (by decide) (c33)) ?_ | refine LOps.valA ?_ | refine LOps.outA ?_ | refine LOps.whenA ?_ | refine LOps.pickA ?_ | refine LOps.storeA ?_)
    refine LWp.cond rfl (fun hx => ?_) (fun hx => ?_)
    · exfalso; simp at hx
    clear hx
    have cv := value_F hP n hn other
    repeat (first | refine LOps.valH (LVal.load hD rfl rfl k5 rfl rfl) ?_ | (refine LWp.seq (LWp.cut 15 (fun T' S' => S' = Ss ∧ ∃ (T'' : Nat → TV), T' = over T'' [(1, .one (sv key)), (2, .one (sv other)), (5, ptr b5), (9, ptr b9), (24, .one (sv (valueN n other).1)), (25, .one (bv (valueN n other).2))]) rfl ?_ ?_); rotate_left) | refine LOps.nil ?_ | refine andThen_normal ?_ | refine andThen_exit ?_ | refine andThen_ret ?_ | refine inBlock_normal ?_ | refine inBlock_ret ?_ | refine inBlock_here ?_ | refine inBlock_out rfl ?_ | refine LWp.seq ?_ | refine LWp.region ?_ | refine LWp.block ?_ | refine LWp.exit ?_ | refine LWp.ret ?_ | refine LWp.skip ?_ | refine LOps.val (LVal.call rfl rfl (by rw [hP]; exact Try.func36) rfl (by decide) (cv)) rfl rfl rfl ?_ | refine LOps.whenC (LVal.call rfl rfl (by rw [hP]; exact Try.func36) rfl (by decide) (cv)) ?_ | refine LOps.valA ?_ | refine LOps.outA ?_ | refine LOps.whenA ?_ | refine LOps.pickA ?_ | refine LOps.storeA ?_)
    rotate_left
    · have c17 := covers_F hP n key
      repeat (first | refine LOps.valH (LVal.load hD rfl rfl k5 rfl rfl) ?_ | refine LOps.nil ?_ | refine andThen_normal ?_ | refine andThen_exit ?_ | refine andThen_ret ?_ | refine inBlock_normal ?_ | refine inBlock_ret ?_ | refine inBlock_here ?_ | refine inBlock_out rfl ?_ | refine LWp.seq ?_ | refine LWp.region ?_ | refine LWp.block ?_ | refine LWp.exit ?_ | refine LWp.ret ?_ | refine LWp.skip ?_ | refine LOps.val (LVal.call rfl rfl (by rw [hP]; exact Try.func17) rfl (by decide) (c17)) rfl rfl rfl ?_ | refine LOps.whenC (LVal.call rfl rfl (by rw [hP]; exact Try.func17) rfl (by decide) (c17)) ?_ | refine LOps.valA ?_ | refine LOps.outA ?_ | refine LOps.whenA ?_ | refine LOps.pickA ?_ | refine LOps.storeA ?_)
      refine LWp.cond rfl (fun hh => ?_) (fun hh => ?_)
      · have hh : (n.leaf && coversN n key) = true := hh
        rw [Bool.and_eq_true] at hh
        obtain ⟨v1, v2, v3, v4, v5⟩ := C.lf hh.1 hh.2
        have cva := value_F hP a C.oa key
        rw [v1] at cva
        have cvb := value_F hP b C.ob key
        rw [v2] at cvb
        generalize (valueN b key).1 = w3 at *
        have hla : (a.keys.map sL).length = a.keys.length := List.length_map ..
        repeat (first | refine LOps.valH (LVal.load hD rfl rfl k17 rfl rfl) ?_ | refine LOps.valH (LVal.load hD rfl rfl k20 rfl rfl) ?_ | refine LOps.nil ?_ | refine andThen_normal ?_ | refine andThen_exit ?_ | refine andThen_ret ?_ | refine inBlock_normal ?_ | refine inBlock_ret ?_ | refine inBlock_here ?_ | refine inBlock_out rfl ?_ | refine LWp.seq ?_ | refine LWp.region ?_ | refine LWp.block ?_ | refine LWp.exit ?_ | refine LWp.ret ?_ | refine LWp.skip ?_ | refine LOps.val (LVal.call rfl rfl (by rw [hP]; exact Try.func36) rfl (by decide) (cva)) rfl rfl rfl ?_ | refine LOps.val (LVal.call rfl rfl (by rw [hP]; exact Try.func36) rfl (by decide) (cvb)) rfl rfl rfl ?_ | refine LOps.whenC (LVal.call rfl rfl (by rw [hP]; exact Try.func36) rfl (by decide) (cva)) ?_ | refine LOps.whenC (LVal.call rfl rfl (by rw [hP]; exact Try.func36) rfl (by decide) (cvb)) ?_ | refine LOps.valA ?_ | refine LOps.outA ?_ | refine LOps.whenA ?_ | refine LOps.pickA ?_ | refine LOps.storeA ?_)
        refine LWp.cond rfl (fun hx => ?_) (fun hx => ?_)
        · exfalso
          have hx : ((((!true || !decide (text = text)) || false) || (had && (((a.keys.map sL).length : Int) != ((n.keys.map sL).length : Int)))) || (!had && (((a.keys.map sL).length : Int) != ((n.keys.map sL).length : Int) + 1))) = true := hx
          rw [hla, hml] at hx
          cases had with
          | true => rw [v3 rfl] at hx; simp at hx
          | false => rw [v4 rfl] at hx; simp at hx
        clear hx
        have cvc := value_F hP a C.oa other
        have cvd := value_F hP b C.ob other
        repeat (first | refine LOps.valH (LVal.load hD rfl rfl k17 rfl rfl) ?_ | refine LOps.valH (LVal.load hD rfl rfl k20 rfl rfl) ?_ | refine LOps.nil ?_ | refine andThen_normal ?_ | refine andThen_exit ?_ | refine andThen_ret ?_ | refine inBlock_normal ?_ | refine inBlock_ret ?_ | refine inBlock_here ?_ | refine inBlock_out rfl ?_ | refine LWp.seq ?_ | refine LWp.region ?_ | refine LWp.block ?_ | refine LWp.exit ?_ | refine LWp.ret ?_ | refine LWp.skip ?_ | refine LOps.val (LVal.call rfl rfl (by rw [hP]; exact Try.func36) rfl (by decide) (cvc)) rfl rfl rfl ?_ | refine LOps.val (LVal.call rfl rfl (by rw [hP]; exact Try.func36) rfl (by decide) (cvd)) rfl rfl rfl ?_ | refine LOps.whenC (LVal.call rfl rfl (by rw [hP]; exact Try.func36) rfl (by decide) (cvc)) ?_ | refine LOps.whenC (LVal.call rfl rfl (by rw [hP]; exact Try.func36) rfl (by decide) (cvd)) ?_ | refine LOps.valA ?_ | refine LOps.outA ?_ | refine LOps.whenA ?_ | refine LOps.pickA ?_ | refine LOps.storeA ?_)
        refine LWp.cond rfl (fun hx => ?_) (fun hx => ?_)
        · exfalso
          have hx : (!decide (other = key) && (((!((valueN a other).2 == (valueN n other).2) || !((valueN b other).2 == (valueN n other).2)) || !decide ((valueN a other).1 = (valueN n other).1)) || !decide ((valueN b other).1 = (valueN n other).1))) = true := hx
          rw [Bool.and_eq_true] at hx
          have hne : other ≠ key := by simpa using hx.1
          rw [(v5 hne).1, (v5 hne).2] at hx
          simp at hx
        repeat (first | refine LOps.nil ?_ | refine andThen_normal ?_ | refine andThen_exit ?_ | refine andThen_ret ?_ | refine inBlock_normal ?_ | refine inBlock_ret ?_ | refine inBlock_here ?_ | refine inBlock_out rfl ?_ | refine LWp.seq ?_ | refine LWp.region ?_ | refine LWp.block ?_ | refine LWp.exit ?_ | refine LWp.ret ?_ | refine LWp.skip ?_ | refine LOps.valA ?_ | refine LOps.outA ?_ | refine LOps.whenA ?_ | refine LOps.pickA ?_ | refine LOps.storeA ?_)
        exact ⟨rfl, _, holds.over ⟨rfl, rfl, rfl, rfl, rfl, rfl, trivial⟩⟩
      · repeat (first | refine LOps.nil ?_ | refine andThen_normal ?_ | refine andThen_exit ?_ | refine andThen_ret ?_ | refine inBlock_normal ?_ | refine inBlock_ret ?_ | refine inBlock_here ?_ | refine inBlock_out rfl ?_ | refine LWp.seq ?_ | refine LWp.region ?_ | refine LWp.block ?_ | refine LWp.exit ?_ | refine LWp.ret ?_ | refine LWp.skip ?_ | refine LOps.valA ?_ | refine LOps.outA ?_ | refine LOps.whenA ?_ | refine LOps.pickA ?_ | refine LOps.storeA ?_)
        exact ⟨rfl, _, holds.over ⟨rfl, rfl, rfl, rfl, rfl, rfl, trivial⟩⟩
    rintro _ S6 ⟨hS6, T6, rfl⟩
    subst hS6
    refine LWp.gen (fun S' => S.le S' ∧ S'.box b5 = some (ndL n) ∧ S'.box b9 = some (hdL next)) ⟨hle, k5, k9⟩ ?_
    clear hle k5 k9 k17 k20 k23
    rintro Sk ⟨hle, k5, k9⟩
    clear C A1 A2 c31 c32 c33 c26 c27 c21 c16 cv
    cases hs : noSplit n with
    | true =>
      rw [split_no hs] at c24
      repeat (first | refine LOps.valH (LVal.load hD rfl rfl k5 rfl rfl) ?_ | refine LOps.valH (LVal.load hD rfl rfl k9 rfl rfl) ?_ | refine LOps.nil ?_ | refine andThen_normal ?_ | refine andThen_exit ?_ | refine andThen_ret ?_ | refine inBlock_normal ?_ | refine inBlock_ret ?_ | refine inBlock_here ?_ | refine inBlock_out rfl ?_ | refine LWp.seq ?_ | refine LWp.region ?_ | refine LWp.block ?_ | refine LWp.exit ?_ | refine LWp.ret ?_ | refine LWp.skip ?_ | refine LOps.val (LVal.call rfl rfl (by rw [hP]; exact Try.func24) rfl (by decide) (c24)) rfl rfl rfl ?_ | refine LOps.whenC (LVal.call rfl rfl (by rw [hP]; exact Try.func24) rfl (by decide) (c24)) ?_ | refine LOps.valA ?_ | refine LOps.outA ?_ | refine LOps.whenA ?_ | refine LOps.pickA ?_ | refine LOps.storeA ?_)
      skip
      refine LOps.do (LDo.alloc hD rfl rfl rfl) rfl rfl rfl ?_
      rintro _ _ ⟨b34, hb34, rfl, rfl⟩
      have n5_34 := fresh_ne hb34 k5
      have m34_5 := n5_34.symm
      have n9_34 := fresh_ne hb34 k9
      have m34_9 := n9_34.symm
      have s34 := hle.none hb34
      refine LOps.gen (fun S' => S.le S' ∧ S'.box b5 = some (ndL n) ∧ S'.box b9 = some (hdL next) ∧ S'.box b34 = some (ndX noNd (.sl .nil []) (.sl .nil []) (.sl .nil []))) ⟨hle.newBox hb34 _, (box_new_ne _ _ n5_34).trans k5, (box_new_ne _ _ n9_34).trans k9, box_new _ _ _⟩ ?_
      clear hle hb34 k5 k9
      rintro S34 ⟨hle, k5, k9, k34⟩
      skip
      refine LOps.do (LDo.alloc hD rfl rfl rfl) rfl rfl rfl ?_
      rintro _ _ ⟨b35, hb35, rfl, rfl⟩
      have n5_35 := fresh_ne hb35 k5
      have m35_5 := n5_35.symm
      have n9_35 := fresh_ne hb35 k9
      have m35_9 := n9_35.symm
      have n34_35 := fresh_ne hb35 k34
      have m35_34 := n34_35.symm
      have s35 := hle.none hb35
      refine LOps.gen (fun S' => S.le S' ∧ S'.box b5 = some (ndL n) ∧ S'.box b9 = some (hdL next) ∧ S'.box b34 = some (ndX noNd (.sl .nil []) (.sl .nil []) (.sl .nil [])) ∧ S'.box b35 = some (ndX noNd (.sl .nil []) (.sl .nil []) (.sl .nil []))) ⟨hle.newBox hb35 _, (box_new_ne _ _ n5_35).trans k5, (box_new_ne _ _ n9_35).trans k9, (box_new_ne _ _ n34_35).trans k34, box_new _ _ _⟩ ?_
      clear hle hb35 k5 k9 k34
      rintro S35 ⟨hle, k5, k9, k34, k35⟩
      repeat (first | refine LOps.nil ?_ | refine andThen_normal ?_ | refine andThen_exit ?_ | refine andThen_ret ?_ | refine inBlock_normal ?_ | refine inBlock_ret ?_ | refine inBlock_here ?_ | refine inBlock_out rfl ?_ | refine LWp.seq ?_ | refine LWp.region ?_ | refine LWp.block ?_ | refine LWp.exit ?_ | refine LWp.ret ?_ | refine LWp.skip ?_ | refine LOps.valA ?_ | refine LOps.outA ?_ | refine LOps.whenA ?_ | refine LOps.pickA ?_)
      refine LOps.storeA (b := b34) (off := 0) (cs := ndX noNd (.sl .nil []) (.sl .nil []) (.sl .nil [])) (l := ndL n) ?_
      refine LOps.gen (fun S' => S.le S' ∧ S'.box b5 = some (ndL n) ∧ S'.box b9 = some (hdL next) ∧ S'.box b34 = some (ndL n) ∧ S'.box b35 = some (ndX noNd (.sl .nil []) (.sl .nil []) (.sl .nil []))) ⟨hle.setBox s34 _, (box_set_ne _ _ n5_34).trans k5, (box_set_ne _ _ n9_34).trans k9, (box_set _ _ _).trans (congrArg some (rfl)), (box_set_ne _ _ m35_34).trans k35⟩ ?_
      clear hle k5 k9 k34 k35
      rintro Ss ⟨hle, k5, k9, k34, k35⟩
      refine LOps.storeA (b := b35) (off := 0) (cs := ndX noNd (.sl .nil []) (.sl .nil []) (.sl .nil [])) (l := ndL noNd) ?_
      refine LOps.gen (fun S' => S.le S' ∧ S'.box b5 = some (ndL n) ∧ S'.box b9 = some (hdL next) ∧ S'.box b34 = some (ndL n) ∧ S'.box b35 = some (ndL noNd)) ⟨hle.setBox s35 _, (box_set_ne _ _ n5_35).trans k5, (box_set_ne _ _ n9_35).trans k9, (box_set_ne _ _ n34_35).trans k34, (box_set _ _ _).trans (congrArg some (rfl))⟩ ?_
      clear hle k5 k9 k34 k35
      rintro Ss ⟨hle, k5, k9, k34, k35⟩
      repeat (first | refine LOps.nil ?_ | refine andThen_normal ?_ | refine andThen_exit ?_ | refine andThen_ret ?_ | refine inBlock_normal ?_ | refine inBlock_ret ?_ | refine inBlock_here ?_ | refine inBlock_out rfl ?_ | refine LWp.seq ?_ | refine LWp.region ?_ | refine LWp.block ?_ | refine LWp.exit ?_ | refine LWp.ret ?_ | refine LWp.skip ?_ | refine LOps.valA ?_ | refine LOps.outA ?_ | refine LOps.whenA ?_ | refine LOps.pickA ?_ | refine LOps.storeA ?_)
      refine LWp.cond rfl (fun hx => ?_) (fun hx => ?_)
      · repeat (first | refine LOps.valH (LVal.load hD rfl rfl k5 rfl rfl) ?_ | refine LOps.valH (LVal.load hD rfl rfl k34 rfl rfl) ?_ | refine LOps.nil ?_ | refine andThen_normal ?_ | refine andThen_exit ?_ | refine andThen_ret ?_ | refine inBlock_normal ?_ | refine inBlock_ret ?_ | refine inBlock_here ?_ | refine inBlock_out rfl ?_ | refine LWp.seq ?_ | refine LWp.region ?_ | refine LWp.block ?_ | refine LWp.exit ?_ | refine LWp.ret ?_ | refine LWp.skip ?_ | refine LOps.val (LVal.call rfl rfl (by rw [hP]; exact Try.func22) rfl (by decide) (ce)) rfl rfl rfl ?_ | refine LOps.whenC (LVal.call rfl rfl (by rw [hP]; exact Try.func22) rfl (by decide) (ce)) ?_ | refine LOps.valA ?_ | refine LOps.outA ?_ | refine LOps.whenA ?_ | refine LOps.pickA ?_ | refine LOps.storeA ?_)
        refine ⟨_, LRes.one rfl, ?_⟩
        show TV.one (bv (decide (n = n))) = _
        rw [decide_eq_true rfl]
      · exfalso
        have hx : (decide (((n.keys.map sL).length : Int) < 2) || (!n.leaf && decide (((n.keys.map sL).length : Int) < 3))) = false := hx
        rw [hml, ← noSplit_is hr, hs] at hx; cases hx
    | false =>
      have H := half_of hr hs hg.1 next
      generalize splitN n next = sp at *
      obtain ⟨L, R, sep⟩ := sp
      have H : Hv n L R sep := H
      have c24 : LFun G 24 [.agg (ndL n), .agg (hdL next)] (.tup [.agg (ndL L), .agg (ndL R), .one (sv sep)]) := c24
      repeat (first | refine LOps.valH (LVal.load hD rfl rfl k5 rfl rfl) ?_ | refine LOps.valH (LVal.load hD rfl rfl k9 rfl rfl) ?_ | refine LOps.nil ?_ | refine andThen_normal ?_ | refine andThen_exit ?_ | refine andThen_ret ?_ | refine inBlock_normal ?_ | refine inBlock_ret ?_ | refine inBlock_here ?_ | refine inBlock_out rfl ?_ | refine LWp.seq ?_ | refine LWp.region ?_ | refine LWp.block ?_ | refine LWp.exit ?_ | refine LWp.ret ?_ | refine LWp.skip ?_ | refine LOps.val (LVal.call rfl rfl (by rw [hP]; exact Try.func24) rfl (by decide) (c24)) rfl rfl rfl ?_ | refine LOps.whenC (LVal.call rfl rfl (by rw [hP]; exact Try.func24) rfl (by decide) (c24)) ?_ | refine LOps.valA ?_ | refine LOps.outA ?_ | refine LOps.whenA ?_ | refine LOps.pickA ?_ | refine LOps.storeA ?_)
      skip
      refine LOps.do (LDo.alloc hD rfl rfl rfl) rfl rfl rfl ?_
      rintro _ _ ⟨b34, hb34, rfl, rfl⟩
      have n5_34 := fresh_ne hb34 k5
      have m34_5 := n5_34.symm
      have n9_34 := fresh_ne hb34 k9
      have m34_9 := n9_34.symm
      have s34 := hle.none hb34
      refine LOps.gen (fun S' => S.le S' ∧ S'.box b5 = some (ndL n) ∧ S'.box b9 = some (hdL next) ∧ S'.box b34 = some (ndX noNd (.sl .nil []) (.sl .nil []) (.sl .nil []))) ⟨hle.newBox hb34 _, (box_new_ne _ _ n5_34).trans k5, (box_new_ne _ _ n9_34).trans k9, box_new _ _ _⟩ ?_
      clear hle hb34 k5 k9
      rintro S34 ⟨hle, k5, k9, k34⟩
      skip
      refine LOps.do (LDo.alloc hD rfl rfl rfl) rfl rfl rfl ?_
      rintro _ _ ⟨b35, hb35, rfl, rfl⟩
      have n5_35 := fresh_ne hb35 k5
      have m35_5 := n5_35.symm
      have n9_35 := fresh_ne hb35 k9
      have m35_9 := n9_35.symm
      have n34_35 := fresh_ne hb35 k34
      have m35_34 := n34_35.symm
      have s35 := hle.none hb35
      refine LOps.gen (fun S' => S.le S' ∧ S'.box b5 = some (ndL n) ∧ S'.box b9 = some (hdL next) ∧ S'.box b34 = some (ndX noNd (.sl .nil []) (.sl .nil []) (.sl .nil [])) ∧ S'.box b35 = some (ndX noNd (.sl .nil []) (.sl .nil []) (.sl .nil []))) ⟨hle.newBox hb35 _, (box_new_ne _ _ n5_35).trans k5, (box_new_ne _ _ n9_35).trans k9, (box_new_ne _ _ n34_35).trans k34, box_new _ _ _⟩ ?_
      clear hle hb35 k5 k9 k34
      rintro S35 ⟨hle, k5, k9, k34, k35⟩
      repeat (first | refine LOps.nil ?_ | refine andThen_normal ?_ | refine andThen_exit ?_ | refine andThen_ret ?_ | refine inBlock_normal ?_ | refine inBlock_ret ?_ | refine inBlock_here ?_ | refine inBlock_out rfl ?_ | refine LWp.seq ?_ | refine LWp.region ?_ | refine LWp.block ?_ | refine LWp.exit ?_ | refine LWp.ret ?_ | refine LWp.skip ?_ | refine LOps.valA ?_ | refine LOps.outA ?_ | refine LOps.whenA ?_ | refine LOps.pickA ?_)
      refine LOps.storeA (b := b34) (off := 0) (cs := ndX noNd (.sl .nil []) (.sl .nil []) (.sl .nil [])) (l := ndL L) ?_
      refine LOps.gen (fun S' => S.le S' ∧ S'.box b5 = some (ndL n) ∧ S'.box b9 = some (hdL next) ∧ S'.box b34 = some (ndL L) ∧ S'.box b35 = some (ndX noNd (.sl .nil []) (.sl .nil []) (.sl .nil []))) ⟨hle.setBox s34 _, (box_set_ne _ _ n5_34).trans k5, (box_set_ne _ _ n9_34).trans k9, (box_set _ _ _).trans (congrArg some (rfl)), (box_set_ne _ _ m35_34).trans k35⟩ ?_
      clear hle k5 k9 k34 k35
      rintro Ss ⟨hle, k5, k9, k34, k35⟩
      refine LOps.storeA (b := b35) (off := 0) (cs := ndX noNd (.sl .nil []) (.sl .nil []) (.sl .nil [])) (l := ndL R) ?_
      refine LOps.gen (fun S' => S.le S' ∧ S'.box b5 = some (ndL n) ∧ S'.box b9 = some (hdL next) ∧ S'.box b34 = some (ndL L) ∧ S'.box b35 = some (ndL R)) ⟨hle.setBox s35 _, (box_set_ne _ _ n5_35).trans k5, (box_set_ne _ _ n9_35).trans k9, (box_set_ne _ _ n34_35).trans k34, (box_set _ _ _).trans (congrArg some (rfl))⟩ ?_
      clear hle k5 k9 k34 k35
      rintro Ss ⟨hle, k5, k9, k34, k35⟩
      repeat (first | refine LOps.nil ?_ | refine andThen_normal ?_ | refine andThen_exit ?_ | refine andThen_ret ?_ | refine inBlock_normal ?_ | refine inBlock_ret ?_ | refine inBlock_here ?_ | refine inBlock_out rfl ?_ | refine LWp.seq ?_ | refine LWp.region ?_ | refine LWp.block ?_ | refine LWp.exit ?_ | refine LWp.ret ?_ | refine LWp.skip ?_ | refine LOps.valA ?_ | refine LOps.outA ?_ | refine LOps.whenA ?_ | refine LOps.pickA ?_ | refine LOps.storeA ?_)
      refine LWp.cond rfl (fun hx => ?_) (fun hx => ?_)
      · exfalso
        have hx : (decide (((n.keys.map sL).length : Int) < 2) || (!n.leaf && decide (((n.keys.map sL).length : Int) < 3))) = true := hx
        rw [hml, ← noSplit_is hr, hs] at hx; cases hx
      clear hx
      have c41 := right_F hP L H.ol
      have c42 := right_F hP R H.or
      have c43 := covers_F hP n sep
      rw [H.rl] at c41
      rw [H.rr] at c42
      rw [H.cs] at c43
      have hlL : (L.keys.map sL).length = L.keys.length := List.length_map ..
      have hlR : (R.keys.map sL).length = R.keys.length := List.length_map ..
      repeat (first | refine LOps.valH (LVal.load hD rfl rfl k5 rfl rfl) ?_ | refine LOps.valH (LVal.load hD rfl rfl k34 rfl rfl) ?_ | refine LOps.valH (LVal.load hD rfl rfl k35 rfl rfl) ?_ | refine LOps.nil ?_ | refine andThen_normal ?_ | refine andThen_exit ?_ | refine andThen_ret ?_ | refine inBlock_normal ?_ | refine inBlock_ret ?_ | refine inBlock_here ?_ | refine inBlock_out rfl ?_ | refine LWp.seq ?_ | refine LWp.region ?_ | refine LWp.block ?_ | refine LWp.exit ?_ | refine LWp.ret ?_ | refine LWp.skip ?_ | refine LOps.val (LVal.call rfl rfl (by rw [hP]; exact Try.func16) rfl (by decide) (c41)) rfl rfl rfl ?_ | refine LOps.val (LVal.call rfl rfl (by rw [hP]; exact Try.func16) rfl (by decide) (c42)) rfl rfl rfl ?_ | refine LOps.val (LVal.call rfl rfl (by rw [hP]; exact Try.func17) rfl (by decide) (c43)) rfl rfl rfl ?_ | refine LOps.whenC (LVal.call rfl rfl (by rw [hP]; exact Try.func16) rfl (by decide) (c41)) ?_ | refine LOps.whenC (LVal.call rfl rfl (by rw [hP]; exact Try.func16) rfl (by decide) (c42)) ?_ | refine LOps.whenC (LVal.call rfl rfl (by rw [hP]; exact Try.func17) rfl (by decide) (c43)) ?_ | refine LOps.valA ?_ | refine LOps.outA ?_ | refine LOps.whenA ?_ | refine LOps.pickA ?_ | refine LOps.storeA ?_)
      refine LWp.cond rfl (fun hx => ?_) (fun hx => ?_)
      · exfalso
        have hx : ((((!true || !true) || (((L.keys.map sL).length : Int) == 0)) || (((R.keys.map sL).length : Int) == 0)) || !true) = true := hx
        rw [hlL, hlR] at hx
        have h1 := H.nl
        have h2 := H.nr
        simp at hx
        rcases hx with hx | hx
        · rw [hx] at h1; cases h1
        · rw [hx] at h2; cases h2
      clear hx
      have c44 := covers_F hP n other
      have c45 := covers_F hP R other
      rw [H.cr] at c45
      have c46 := covers_F hP L other
      rw [H.cl] at c46
      repeat (first | refine LOps.valH (LVal.load hD rfl rfl k5 rfl rfl) ?_ | refine LOps.nil ?_ | refine andThen_normal ?_ | refine andThen_exit ?_ | refine andThen_ret ?_ | refine inBlock_normal ?_ | refine inBlock_ret ?_ | refine inBlock_here ?_ | refine inBlock_out rfl ?_ | refine LWp.seq ?_ | refine LWp.region ?_ | refine LWp.block ?_ | refine LWp.exit ?_ | refine LWp.ret ?_ | refine LWp.skip ?_ | refine LOps.val (LVal.call rfl rfl (by rw [hP]; exact Try.func17) rfl (by decide) (c44)) rfl rfl rfl ?_ | refine LOps.whenC (LVal.call rfl rfl (by rw [hP]; exact Try.func17) rfl (by decide) (c44)) ?_ | refine LOps.valA ?_ | refine LOps.outA ?_ | refine LOps.whenA ?_ | refine LOps.pickA ?_ | refine LOps.storeA ?_)
      refine LWp.cond rfl (fun hx => ?_) (fun hx => ?_)
      · have hx : (!coversN n other) = true := hx
        repeat (first | refine LOps.valH (LVal.load hD rfl rfl k35 rfl rfl) ?_ | refine LOps.nil ?_ | refine andThen_normal ?_ | refine andThen_exit ?_ | refine andThen_ret ?_ | refine inBlock_normal ?_ | refine inBlock_ret ?_ | refine inBlock_here ?_ | refine inBlock_out rfl ?_ | refine LWp.seq ?_ | refine LWp.region ?_ | refine LWp.block ?_ | refine LWp.exit ?_ | refine LWp.ret ?_ | refine LWp.skip ?_ | refine LOps.val (LVal.call rfl rfl (by rw [hP]; exact Try.func17) rfl (by decide) (c45)) rfl rfl rfl ?_ | refine LOps.whenC (LVal.call rfl rfl (by rw [hP]; exact Try.func17) rfl (by decide) (c45)) ?_ | refine LOps.valA ?_ | refine LOps.outA ?_ | refine LOps.whenA ?_ | refine LOps.pickA ?_ | refine LOps.storeA ?_)
        refine ⟨_, LRes.one rfl, ?_⟩
        show TV.one (bv (!coversN n other)) = _
        rw [hx]
      have hx : (!coversN n other) = false := hx
      have hco : coversN n other = true := by simpa using hx
      rw [hco] at c45
      clear hx
      repeat (first | refine LOps.valH (LVal.load hD rfl rfl k35 rfl rfl) ?_ | refine LOps.nil ?_ | refine andThen_normal ?_ | refine andThen_exit ?_ | refine andThen_ret ?_ | refine inBlock_normal ?_ | refine inBlock_ret ?_ | refine inBlock_here ?_ | refine inBlock_out rfl ?_ | refine LWp.seq ?_ | refine LWp.region ?_ | refine LWp.block ?_ | refine LWp.exit ?_ | refine LWp.ret ?_ | refine LWp.skip ?_ | refine LOps.valA ?_ | refine LOps.outA ?_ | refine LOps.whenA ?_ | refine LOps.pickA ?_ | refine LOps.storeA ?_)
      skip
      refine LOps.do (LDo.alloc hD rfl rfl rfl) rfl rfl rfl ?_
      rintro _ _ ⟨b37, hb37, rfl, rfl⟩
      have n5_37 := fresh_ne hb37 k5
      have m37_5 := n5_37.symm
      have n9_37 := fresh_ne hb37 k9
      have m37_9 := n9_37.symm
      have n34_37 := fresh_ne hb37 k34
      have m37_34 := n34_37.symm
      have n35_37 := fresh_ne hb37 k35
      have m37_35 := n35_37.symm
      have s37 := hle.none hb37
      refine LOps.gen (fun S' => S.le S' ∧ S'.box b5 = some (ndL n) ∧ S'.box b9 = some (hdL next) ∧ S'.box b34 = some (ndL L) ∧ S'.box b35 = some (ndL R) ∧ S'.box b37 = some (ndX noNd (.sl .nil []) (.sl .nil []) (.sl .nil []))) ⟨hle.newBox hb37 _, (box_new_ne _ _ n5_37).trans k5, (box_new_ne _ _ n9_37).trans k9, (box_new_ne _ _ n34_37).trans k34, (box_new_ne _ _ n35_37).trans k35, box_new _ _ _⟩ ?_
      clear hle hb37 k5 k9 k34 k35
      rintro S37 ⟨hle, k5, k9, k34, k35, k37⟩
      repeat (first | refine LOps.nil ?_ | refine andThen_normal ?_ | refine andThen_exit ?_ | refine andThen_ret ?_ | refine inBlock_normal ?_ | refine inBlock_ret ?_ | refine inBlock_here ?_ | refine inBlock_out rfl ?_ | refine LWp.seq ?_ | refine LWp.region ?_ | refine LWp.block ?_ | refine LWp.exit ?_ | refine LWp.ret ?_ | refine LWp.skip ?_ | refine LOps.valA ?_ | refine LOps.outA ?_ | refine LOps.whenA ?_ | refine LOps.pickA ?_)
      refine LOps.storeA (b := b37) (off := 0) (cs := ndX noNd (.sl .nil []) (.sl .nil []) (.sl .nil [])) (l := ndL R) ?_
      refine LOps.gen (fun S' => S.le S' ∧ S'.box b5 = some (ndL n) ∧ S'.box b9 = some (hdL next) ∧ S'.box b34 = some (ndL L) ∧ S'.box b35 = some (ndL R) ∧ S'.box b37 = some (ndL R)) ⟨hle.setBox s37 _, (box_set_ne _ _ n5_37).trans k5, (box_set_ne _ _ n9_37).trans k9, (box_set_ne _ _ n34_37).trans k34, (box_set_ne _ _ n35_37).trans k35, (box_set _ _ _).trans (congrArg some (rfl))⟩ ?_
      clear hle k5 k9 k34 k35 k37
      rintro Ss ⟨hle, k5, k9, k34, k35, k37⟩
      repeat (first | refine LOps.valH (LVal.load hD rfl rfl k34 rfl rfl) ?_ | refine LOps.valH (LVal.load hD rfl rfl k35 rfl rfl) ?_ | refine LOps.valH (LVal.lssStr rfl rfl rfl) ?_ | refine LOps.nil ?_ | refine andThen_normal ?_ | refine andThen_exit ?_ | refine andThen_ret ?_ | refine inBlock_normal ?_ | refine inBlock_ret ?_ | refine inBlock_here ?_ | refine inBlock_out rfl ?_ | refine LWp.seq ?_ | refine LWp.region ?_ | refine LWp.block ?_ | refine LWp.exit ?_ | refine LWp.ret ?_ | refine LWp.skip ?_ | refine LOps.val (LVal.call rfl rfl (by rw [hP]; exact Try.func17) rfl (by decide) (c46)) rfl rfl rfl ?_ | refine LOps.val (LVal.call rfl rfl (by rw [hP]; exact Try.func17) rfl (by decide) (c45)) rfl rfl rfl ?_ | refine LOps.whenC (LVal.call rfl rfl (by rw [hP]; exact Try.func17) rfl (by decide) (c46)) ?_ | refine LOps.whenC (LVal.call rfl rfl (by rw [hP]; exact Try.func17) rfl (by decide) (c45)) ?_ | refine LOps.valA ?_ | refine LOps.outA ?_ | refine LOps.whenA ?_ | refine LOps.pickA ?_ | refine LOps.storeA ?_)
      refine LWp.cond rfl (fun hx => ?_) (fun hx => ?_)
      · exfalso; simp at hx
      clear hx
      repeat (first | (refine LWp.seq (LWp.cut 34 (fun T' S' => S.le S' ∧ S'.box b5 = some (ndL n) ∧ S'.box b37 = some (ndL (if ltS other sep then L else R)) ∧ ∃ (T'' : Nat → TV), T' = over T'' [(2, .one (sv other)), (5, ptr b5), (24, .one (sv (valueN n other).1)), (25, .one (bv (valueN n other).2)), (37, ptr b37)]) rfl ?_ ?_); rotate_left) | refine LOps.nil ?_ | refine andThen_normal ?_ | refine andThen_exit ?_ | refine andThen_ret ?_ | refine inBlock_normal ?_ | refine inBlock_ret ?_ | refine inBlock_here ?_ | refine inBlock_out rfl ?_ | refine LWp.seq ?_ | refine LWp.region ?_ | refine LWp.block ?_ | refine LWp.exit ?_ | refine LWp.ret ?_ | refine LWp.skip ?_ | refine LOps.valA ?_ | refine LOps.outA ?_ | refine LOps.whenA ?_ | refine LOps.pickA ?_ | refine LOps.storeA ?_)
      rotate_left
      · repeat (first | refine LOps.valH (LVal.lssStr rfl rfl rfl) ?_ | refine LOps.nil ?_ | refine andThen_normal ?_ | refine andThen_exit ?_ | refine andThen_ret ?_ | refine inBlock_normal ?_ | refine inBlock_ret ?_ | refine inBlock_here ?_ | refine inBlock_out rfl ?_ | refine LWp.seq ?_ | refine LWp.region ?_ | refine LWp.block ?_ | refine LWp.exit ?_ | refine LWp.ret ?_ | refine LWp.skip ?_ | refine LOps.valA ?_ | refine LOps.outA ?_ | refine LOps.whenA ?_ | refine LOps.pickA ?_ | refine LOps.storeA ?_)
        refine LWp.cond rfl (fun hh => ?_) (fun hh => ?_)
        · have hh : ltS other sep = true := hh
          repeat (first | refine LOps.valH (LVal.load hD rfl rfl k34 rfl rfl) ?_ | refine LOps.nil ?_ | refine andThen_normal ?_ | refine andThen_exit ?_ | refine andThen_ret ?_ | refine inBlock_normal ?_ | refine inBlock_ret ?_ | refine inBlock_here ?_ | refine inBlock_out rfl ?_ | refine LWp.seq ?_ | refine LWp.region ?_ | refine LWp.block ?_ | refine LWp.exit ?_ | refine LWp.ret ?_ | refine LWp.skip ?_ | refine LOps.valA ?_ | refine LOps.outA ?_ | refine LOps.whenA ?_ | refine LOps.pickA ?_)
          refine LOps.storeA (b := b37) (off := 0) (cs := ndL R) (l := ndL L) ?_
          refine LOps.gen (fun S' => S.le S' ∧ S'.box b5 = some (ndL n) ∧ S'.box b9 = some (hdL next) ∧ S'.box b34 = some (ndL L) ∧ S'.box b35 = some (ndL R) ∧ S'.box b37 = some (ndL L)) ⟨hle.setBox s37 _, (box_set_ne _ _ n5_37).trans k5, (box_set_ne _ _ n9_37).trans k9, (box_set_ne _ _ n34_37).trans k34, (box_set_ne _ _ n35_37).trans k35, (box_set _ _ _).trans (congrArg some (rfl))⟩ ?_
          clear hle k5 k9 k34 k35 k37
          rintro Ss ⟨hle, k5, k9, k34, k35, k37⟩
          repeat (first | refine LOps.nil ?_ | refine andThen_normal ?_ | refine andThen_exit ?_ | refine andThen_ret ?_ | refine inBlock_normal ?_ | refine inBlock_ret ?_ | refine inBlock_here ?_ | refine inBlock_out rfl ?_ | refine LWp.seq ?_ | refine LWp.region ?_ | refine LWp.block ?_ | refine LWp.exit ?_ | refine LWp.ret ?_ | refine LWp.skip ?_ | refine LOps.valA ?_ | refine LOps.outA ?_ | refine LOps.whenA ?_ | refine LOps.pickA ?_ | refine LOps.storeA ?_)
          exact ⟨hle, k5, by rw [if_pos hh]; exact k37, _, holds.over ⟨rfl, rfl, rfl, rfl, rfl, trivial⟩⟩
        · have hh : ltS other sep = false := hh
          repeat (first | refine LOps.nil ?_ | refine andThen_normal ?_ | refine andThen_exit ?_ | refine andThen_ret ?_ | refine inBlock_normal ?_ | refine inBlock_ret ?_ | refine inBlock_here ?_ | refine inBlock_out rfl ?_ | refine LWp.seq ?_ | refine LWp.region ?_ | refine LWp.block ?_ | refine LWp.exit ?_ | refine LWp.ret ?_ | refine LWp.skip ?_ | refine LOps.valA ?_ | refine LOps.outA ?_ | refine LOps.whenA ?_ | refine LOps.pickA ?_ | refine LOps.storeA ?_)
          exact ⟨hle, k5, by rw [if_neg (by rw [hh]; decide)]; exact k37, _, holds.over ⟨rfl, rfl, rfl, rfl, rfl, trivial⟩⟩
      clear hle k5 k9 k34 k35 k37
      rintro _ S7 ⟨hle, k5, k37, T7, rfl⟩
      have hv := H.v other
      have hk := H.k other hco
      have oh : (if ltS other sep then L else R).ok := by
        split
        · exact H.ol
        · exact H.or
      generalize (if ltS other sep then L else R) = half at *
      have c51 := value_F hP half oh other
      have c52 := kid_F hP n hn other
      have c53 := kid_F hP half oh other
      rw [hk] at c53
      repeat (first | refine LOps.valH (LVal.load hD rfl rfl k5 rfl rfl) ?_ | refine LOps.valH (LVal.load hD rfl rfl k37 rfl rfl) ?_ | refine LOps.nil ?_ | refine andThen_normal ?_ | refine andThen_exit ?_ | refine andThen_ret ?_ | refine inBlock_normal ?_ | refine inBlock_ret ?_ | refine inBlock_here ?_ | refine inBlock_out rfl ?_ | refine LWp.seq ?_ | refine LWp.region ?_ | refine LWp.block ?_ | refine LWp.exit ?_ | refine LWp.ret ?_ | refine LWp.skip ?_ | refine LOps.val (LVal.call rfl rfl (by rw [hP]; exact Try.func36) rfl (by decide) (c51)) rfl rfl rfl ?_ | refine LOps.val (LVal.call rfl rfl (by rw [hP]; exact Try.func20) rfl (by decide) (c52)) rfl rfl rfl ?_ | refine LOps.whenC (LVal.call rfl rfl (by rw [hP]; exact Try.func36) rfl (by decide) (c51)) ?_ | refine LOps.whenC (LVal.call rfl rfl (by rw [hP]; exact Try.func20) rfl (by decide) (c52)) ?_ | refine LOps.valA ?_ | refine LOps.outA ?_ | refine LOps.whenA ?_ | refine LOps.pickA ?_ | refine LOps.storeA ?_)
      skip
      refine LOps.do (LDo.alloc hD rfl rfl rfl) rfl rfl rfl ?_
      rintro _ _ ⟨b40, hb40, rfl, rfl⟩
      have n5_40 := fresh_ne hb40 k5
      have m40_5 := n5_40.symm
      have n37_40 := fresh_ne hb40 k37
      have m40_37 := n37_40.symm
      have s40 := hle.none hb40
      refine LOps.gen (fun S' => S.le S' ∧ S'.box b5 = some (ndL n) ∧ S'.box b37 = some (ndL half) ∧ S'.box b40 = some (hdL noHd)) ⟨hle.newBox hb40 _, (box_new_ne _ _ n5_40).trans k5, (box_new_ne _ _ n37_40).trans k37, box_new _ _ _⟩ ?_
      clear hle hb40 k5 k37
      rintro S40 ⟨hle, k5, k37, k40⟩
      repeat (first | refine LOps.nil ?_ | refine andThen_normal ?_ | refine andThen_exit ?_ | refine andThen_ret ?_ | refine inBlock_normal ?_ | refine inBlock_ret ?_ | refine inBlock_here ?_ | refine inBlock_out rfl ?_ | refine LWp.seq ?_ | refine LWp.region ?_ | refine LWp.block ?_ | refine LWp.exit ?_ | refine LWp.ret ?_ | refine LWp.skip ?_ | refine LOps.valA ?_ | refine LOps.outA ?_ | refine LOps.whenA ?_ | refine LOps.pickA ?_)
      refine LOps.storeA (b := b40) (off := 0) (cs := hdL noHd) (l := hdL (kidN n other).1) ?_
      refine LOps.gen (fun S' => S.le S' ∧ S'.box b5 = some (ndL n) ∧ S'.box b37 = some (ndL half) ∧ S'.box b40 = some (hdL (kidN n other).1)) ⟨hle.setBox s40 _, (box_set_ne _ _ n5_40).trans k5, (box_set_ne _ _ n37_40).trans k37, (box_set _ _ _).trans (congrArg some (rfl))⟩ ?_
      clear hle k5 k37 k40
      rintro Ss ⟨hle, k5, k37, k40⟩
      repeat (first | refine LOps.valH (LVal.load hD rfl rfl k37 rfl rfl) ?_ | refine LOps.nil ?_ | refine andThen_normal ?_ | refine andThen_exit ?_ | refine andThen_ret ?_ | refine inBlock_normal ?_ | refine inBlock_ret ?_ | refine inBlock_here ?_ | refine inBlock_out rfl ?_ | refine LWp.seq ?_ | refine LWp.region ?_ | refine LWp.block ?_ | refine LWp.exit ?_ | refine LWp.ret ?_ | refine LWp.skip ?_ | refine LOps.val (LVal.call rfl rfl (by rw [hP]; exact Try.func20) rfl (by decide) (c53)) rfl rfl rfl ?_ | refine LOps.whenC (LVal.call rfl rfl (by rw [hP]; exact Try.func20) rfl (by decide) (c53)) ?_ | refine LOps.valA ?_ | refine LOps.outA ?_ | refine LOps.whenA ?_ | refine LOps.pickA ?_ | refine LOps.storeA ?_)
      skip
      refine LOps.do (LDo.alloc hD rfl rfl rfl) rfl rfl rfl ?_
      rintro _ _ ⟨b42, hb42, rfl, rfl⟩
      have n5_42 := fresh_ne hb42 k5
      have m42_5 := n5_42.symm
      have n37_42 := fresh_ne hb42 k37
      have m42_37 := n37_42.symm
      have n40_42 := fresh_ne hb42 k40
      have m42_40 := n40_42.symm
      have s42 := hle.none hb42
      refine LOps.gen (fun S' => S.le S' ∧ S'.box b5 = some (ndL n) ∧ S'.box b37 = some (ndL half) ∧ S'.box b40 = some (hdL (kidN n other).1) ∧ S'.box b42 = some (hdL noHd)) ⟨hle.newBox hb42 _, (box_new_ne _ _ n5_42).trans k5, (box_new_ne _ _ n37_42).trans k37, (box_new_ne _ _ n40_42).trans k40, box_new _ _ _⟩ ?_
      clear hle hb42 k5 k37 k40
      rintro S42 ⟨hle, k5, k37, k40, k42⟩
      repeat (first | refine LOps.nil ?_ | refine andThen_normal ?_ | refine andThen_exit ?_ | refine andThen_ret ?_ | refine inBlock_normal ?_ | refine inBlock_ret ?_ | refine inBlock_here ?_ | refine inBlock_out rfl ?_ | refine LWp.seq ?_ | refine LWp.region ?_ | refine LWp.block ?_ | refine LWp.exit ?_ | refine LWp.ret ?_ | refine LWp.skip ?_ | refine LOps.valA ?_ | refine LOps.outA ?_ | refine LOps.whenA ?_ | refine LOps.pickA ?_)
      refine LOps.storeA (b := b42) (off := 0) (cs := hdL noHd) (l := hdL (kidN n other).1) ?_
      refine LOps.gen (fun S' => S.le S' ∧ S'.box b5 = some (ndL n) ∧ S'.box b37 = some (ndL half) ∧ S'.box b40 = some (hdL (kidN n other).1) ∧ S'.box b42 = some (hdL (kidN n other).1)) ⟨hle.setBox s42 _, (box_set_ne _ _ n5_42).trans k5, (box_set_ne _ _ n37_42).trans k37, (box_set_ne _ _ n40_42).trans k40, (box_set _ _ _).trans (congrArg some (rfl))⟩ ?_
      clear hle k5 k37 k40 k42
      rintro Ss ⟨hle, k5, k37, k40, k42⟩
      repeat (first | refine LOps.valH (LVal.load hD rfl rfl k5 rfl rfl) ?_ | refine LOps.valH (LVal.load hD rfl rfl k40 rfl rfl) ?_ | refine LOps.valH (LVal.load hD rfl rfl k42 rfl rfl) ?_ | refine LOps.nil ?_ | refine andThen_normal ?_ | refine andThen_exit ?_ | refine andThen_ret ?_ | refine inBlock_normal ?_ | refine inBlock_ret ?_ | refine inBlock_here ?_ | refine inBlock_out rfl ?_ | refine LWp.seq ?_ | refine LWp.region ?_ | refine LWp.block ?_ | refine LWp.exit ?_ | refine LWp.ret ?_ | refine LWp.skip ?_ | refine LOps.valA ?_ | refine LOps.outA ?_ | refine LOps.whenA ?_ | refine LOps.pickA ?_ | refine LOps.storeA ?_)
      refine ⟨_, LRes.one rfl, ?_⟩
      show TV.one (bv (((!n.leaf || (decide ((valueN half other).1 = (valueN n other).1) && ((valueN half other).2 == (valueN n other).2))) && eqHd (kidN n other).1 (kidN n other).1) && ((kidN n other).2 == (kidN n other).2))) = _
      rw [eqHd_iff.2 rfl]
      cases hl : n.leaf with
      | true => rw [hv hl]; simp
      | false => simp
end Go.Proofs.Ytjcpcgneghanfaa.LF

namespace Go.Proofs.Ytjcpcgneghanfaa
open Go.RowKit LF
theorem blnodeHalves_walk (W : World) (v0 : Value) (l0 : List LV) (y0 : Typed LF.D 28 l0) (g0 : RepT (G0 Try.prog W) W (allCells W) (argTV ti28 l0) v0) (v1 : Value) (l1 : List LV) (y1 : Typed LF.D 9 l1) (g1 : RepT (G0 Try.prog W) W (allCells W) (argTV ti9 l1) v1) (v2 : Value) (l2 : List LV) (y2 : Typed LF.D 9 l2) (g2 : RepT (G0 Try.prog W) W (allCells W) (argTV ti9 l2) v2) (v3 : Value) (l3 : List LV) (y3 : Typed LF.D 9 l3) (g3 : RepT (G0 Try.prog W) W (allCells W) (argTV ti9 l3) v3) (v4 : Value) (l4 : List LV) (y4 : Typed LF.D 26 l4) (g4 : RepT (G0 Try.prog W) W (allCells W) (argTV ti26 l4) v4) :
    Calls Try.prog 9 #[v0, v1, v2, v3, v4] W fun e W' => e = .returned (.bool true) ∧ Below W.heap.size W W' := by
  obtain ⟨n, rfl, hz⟩ := typed_nd y0
  obtain ⟨k, rfl, hk⟩ := typed_key y1
  obtain ⟨o, rfl, ho⟩ := typed_key y2
  obtain ⟨t, rfl, ht⟩ := typed_key y3
  obtain ⟨h0, rfl⟩ := typed_hd y4
  exact law_calls (fun G S h => halves_L h n hz k o t h0 S) (.cons (vs := [v1, v2, v3, v4]) g0 (.cons (vs := [v2, v3, v4]) g1 (.cons (vs := [v3, v4]) g2 (.cons (vs := [v4]) g3 (.cons (vs := []) g4 .nil)))))
end Go.Proofs.Ytjcpcgneghanfaa
