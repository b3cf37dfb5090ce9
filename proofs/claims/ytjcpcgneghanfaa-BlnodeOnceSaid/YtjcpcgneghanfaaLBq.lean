/- The walk of the law 'BlnodeOnce'. -/
import Derived.Test.YtjcpcgneghanfaaLBp
set_option linter.unusedVariables false
set_option linter.unusedSimpArgs false
namespace Go.Proofs.Ytjcpcgneghanfaa.LF
open Go.RowKit
set_option linter.unusedVariables false

theorem leafCond {a b c d : Bool} (h : (((!a || !b) || !c) || !d) = false) : a = true ∧ b = true ∧ c = true ∧ d = true := by
  cases a <;> cases b <;> cases c <;> cases d <;> first | exact ⟨rfl, rfl, rfl, rfl⟩ | cases h

set_option maxHeartbeats 32000000 in
set_option maxRecDepth 20000 in
theorem once_L {G : Ctx} (hP : G.P = Try.prog) (n : NdV) (hz : n.sz) (a b x y : ByteArray) (S : LS) : LCalls G 6 [.agg (ndL n), .one (sv a), .one (sv b), .one (sv x), .one (sv y)] (fun r _ => r = .one (bv true)) S := by
  have hD : TabOK G.P D := by rw [hP]; exact hD0
  have ca := awake_F hP
  have cg := great_F hP n hz
  refine LCalls.enter (fn := Try.f6) (by rw [hP]; exact Try.func6) rfl rfl ?_
  repeat (first | refine LOps.nil ?_ | refine andThen_normal ?_ | refine andThen_exit ?_ | refine andThen_ret ?_ | refine inBlock_normal ?_ | refine inBlock_ret ?_ | refine inBlock_here ?_ | refine inBlock_out rfl ?_ | refine LWp.seq ?_ | refine LWp.region ?_ | refine LWp.block ?_ | refine LWp.exit ?_ | refine LWp.ret ?_ | refine LWp.skip ?_ | refine LOps.valA ?_ | refine LOps.outA ?_ | refine LOps.whenA ?_ | refine LOps.pickA ?_ | refine LOps.storeA ?_)
  have hle := LS.le.refl S
  refine LOps.do (LDo.box rfl rfl) rfl rfl rfl ?_
  rintro _ _ ⟨b5, hb5, rfl, rfl⟩
  have s5 := hle.none hb5
  refine LOps.gen (fun S' => S.le S' ∧ S'.box b5 = some (ndL n)) ⟨hle.newBox hb5 _, box_new _ _ _⟩ ?_
  clear hle hb5 
  rintro S5 ⟨hle, k5⟩
  repeat (first | refine LOps.nil ?_ | refine andThen_normal ?_ | refine andThen_exit ?_ | refine andThen_ret ?_ | refine inBlock_normal ?_ | refine inBlock_ret ?_ | refine inBlock_here ?_ | refine inBlock_out rfl ?_ | refine LWp.seq ?_ | refine LWp.region ?_ | refine LWp.block ?_ | refine LWp.exit ?_ | refine LWp.ret ?_ | refine LWp.skip ?_ | refine LOps.val (LVal.call rfl rfl (by rw [hP]; exact Try.func10) rfl (by decide) (ca)) rfl rfl rfl ?_ | refine LOps.whenC (LVal.call rfl rfl (by rw [hP]; exact Try.func10) rfl (by decide) (ca)) ?_ | refine LOps.valA ?_ | refine LOps.outA ?_ | refine LOps.whenA ?_ | refine LOps.pickA ?_ | refine LOps.storeA ?_)
  refine LWp.condF rfl ?_
  repeat (first | refine LOps.valH (LVal.load hD rfl rfl k5 rfl rfl) ?_ | refine LOps.nil ?_ | refine andThen_normal ?_ | refine andThen_exit ?_ | refine andThen_ret ?_ | refine inBlock_normal ?_ | refine inBlock_ret ?_ | refine inBlock_here ?_ | refine inBlock_out rfl ?_ | refine LWp.seq ?_ | refine LWp.region ?_ | refine LWp.block ?_ | refine LWp.exit ?_ | refine LWp.ret ?_ | refine LWp.skip ?_ | refine LOps.val (LVal.call rfl rfl (by rw [hP]; exact Try.func11) rfl (by decide) (cg)) rfl rfl rfl ?_ | refine LOps.whenC (LVal.call rfl rfl (by rw [hP]; exact Try.func11) rfl (by decide) (cg)) ?_ | refine LOps.valA ?_ | refine LOps.outA ?_ | refine LOps.whenA ?_ | refine LOps.pickA ?_ | refine LOps.storeA ?_)
  refine LWp.cond rfl (fun h => ?_) (fun h => ?_)
  · repeat (first | refine LOps.nil ?_ | refine andThen_normal ?_ | refine andThen_exit ?_ | refine andThen_ret ?_ | refine inBlock_normal ?_ | refine inBlock_ret ?_ | refine inBlock_here ?_ | refine inBlock_out rfl ?_ | refine LWp.seq ?_ | refine LWp.region ?_ | refine LWp.block ?_ | refine LWp.exit ?_ | refine LWp.ret ?_ | refine LWp.skip ?_ | refine LOps.valA ?_ | refine LOps.outA ?_ | refine LOps.whenA ?_ | refine LOps.pickA ?_ | refine LOps.storeA ?_)
    exact ⟨_, LRes.one rfl, rfl⟩
  have h : ((((greatN n || decide ((a.size : Int) > 2000)) || decide ((b.size : Int) > 2000)) || decide ((x.size : Int) > 2000)) || decide ((y.size : Int) > 2000)) = false := h
  simp only [Bool.or_eq_false_iff] at h
  have hg := greatN_ok h.1.1.1.1
  clear h
  have hn : n.ok := ⟨by omega, by omega, by omega⟩
  have c16 := right_F hP n hn
  have c17 := covers_F hP n a
  have c18 := covers_F hP n b
  repeat (first | refine LOps.valH (LVal.load hD rfl rfl k5 rfl rfl) ?_ | refine LOps.nil ?_ | refine andThen_normal ?_ | refine andThen_exit ?_ | refine andThen_ret ?_ | refine inBlock_normal ?_ | refine inBlock_ret ?_ | refine inBlock_here ?_ | refine inBlock_out rfl ?_ | refine LWp.seq ?_ | refine LWp.region ?_ | refine LWp.block ?_ | refine LWp.exit ?_ | refine LWp.ret ?_ | refine LWp.skip ?_ | refine LOps.val (LVal.call rfl rfl (by rw [hP]; exact Try.func16) rfl (by decide) (c16)) rfl rfl rfl ?_ | refine LOps.val (LVal.call rfl rfl (by rw [hP]; exact Try.func17) rfl (by decide) (c17)) rfl rfl rfl ?_ | refine LOps.val (LVal.call rfl rfl (by rw [hP]; exact Try.func17) rfl (by decide) (c18)) rfl rfl rfl ?_ | refine LOps.whenC (LVal.call rfl rfl (by rw [hP]; exact Try.func16) rfl (by decide) (c16)) ?_ | refine LOps.whenC (LVal.call rfl rfl (by rw [hP]; exact Try.func17) rfl (by decide) (c17)) ?_ | refine LOps.whenC (LVal.call rfl rfl (by rw [hP]; exact Try.func17) rfl (by decide) (c18)) ?_ | refine LOps.valA ?_ | refine LOps.outA ?_ | refine LOps.whenA ?_ | refine LOps.pickA ?_ | refine LOps.storeA ?_)
  refine LWp.cond rfl (fun h => ?_) (fun h => ?_)
  · repeat (first | refine LOps.nil ?_ | refine andThen_normal ?_ | refine andThen_exit ?_ | refine andThen_ret ?_ | refine inBlock_normal ?_ | refine inBlock_ret ?_ | refine inBlock_here ?_ | refine inBlock_out rfl ?_ | refine LWp.seq ?_ | refine LWp.region ?_ | refine LWp.block ?_ | refine LWp.exit ?_ | refine LWp.ret ?_ | refine LWp.skip ?_ | refine LOps.valA ?_ | refine LOps.outA ?_ | refine LOps.whenA ?_ | refine LOps.pickA ?_ | refine LOps.storeA ?_)
    exact ⟨_, LRes.one rfl, rfl⟩
  have h : (((!rightN n || !n.leaf) || !coversN n a) || !coversN n b) = false := h
  obtain ⟨hr, hl, ha, hb⟩ := leafCond h
  clear h c16 c17 c18
  obtain ⟨l, L⟩ := Lf.of hr hl
  have hll := L.len
  have Lp := L.set ha x
  have hpl := setP_len l a x
  have okp := Lp.fit (by omega)
  have Ld := L.drop a
  have okd := Ld.fit (Nat.le_trans (dropP_len l a) (by omega))
  have c1 := put_F hP n hn a x
  rw [L.put ha x] at c1
  have c2 := put_F hP _ okp a x
  rw [Lp.put (k := a) ha x, set_set L.srt, ofP_ofP, getP_set L.srt, if_pos rfl] at c2
  have c3 := delete_F hP _ okp a
  rw [Lp.del (k := a) ha, drop_set L.srt, ofP_ofP, getP_set L.srt, if_pos rfl] at c3
  have c4 := delete_F hP n hn a
  rw [L.del ha] at c4
  have c5 := right_F hP _ okp
  rw [Lp.right] at c5
  have c6 := equal_F hP _ (ofP n (setP l a x)) okp
  have c7 := equal_F hP _ (ofP n (dropP l a)) okd
  have c8 := equal_F hP _ n okd
  have hno : (getP l a).isSome = false → ofP n (dropP l a) = n := fun h => by
    have : getP l a = none := by cases hq : getP l a with
      | none => rfl
      | some v => rw [hq] at h; cases h
    rw [drop_no L.srt this]; exact L.eq.symm
  have c9 := put_F hP _ okp b y
  rw [Lp.put (k := b) hb y, ofP_ofP] at c9
  have Lb := L.set hb y
  have hbl := setP_len l b y
  have okb := Lb.fit (by omega)
  have c10 := put_F hP n hn b y
  rw [L.put hb y] at c10
  have c11 := put_F hP _ okb a x
  rw [Lb.put (k := a) ha x, ofP_ofP] at c11
  have hcomm : a ≠ b → setP (setP l b y) a x = setP (setP l a x) b y := fun h => (set_comm L.srt h x y).symm
  have okab := (Lp.set (k := b) hb y).fit (Nat.le_trans (setP_len _ b y) (by omega))
  have c12 := equal_F hP (ofP n (setP (setP l a x) b y)) (ofP n (setP (setP l a x) b y)) okab
  generalize ofP n (setP l a x) = p at *
  generalize ofP n (dropP l a) = d at *
  generalize ofP n (setP l b y) = s at *
  generalize (getP l a).getD noBytes = w1 at *
  generalize (getP l b).getD noBytes = w2 at *
  generalize (getP (setP l a x) b).getD noBytes = w3 at *
  generalize (getP (setP l b y) a).getD noBytes = w4 at *
  repeat (first | refine LOps.valH (LVal.load hD rfl rfl k5 rfl rfl) ?_ | refine LOps.nil ?_ | refine andThen_normal ?_ | refine andThen_exit ?_ | refine andThen_ret ?_ | refine inBlock_normal ?_ | refine inBlock_ret ?_ | refine inBlock_here ?_ | refine inBlock_out rfl ?_ | refine LWp.seq ?_ | refine LWp.region ?_ | refine LWp.block ?_ | refine LWp.exit ?_ | refine LWp.ret ?_ | refine LWp.skip ?_ | refine LOps.val (LVal.call rfl rfl (by rw [hP]; exact Try.func26) rfl (by decide) (c1)) rfl rfl rfl ?_ | refine LOps.whenC (LVal.call rfl rfl (by rw [hP]; exact Try.func26) rfl (by decide) (c1)) ?_ | refine LOps.valA ?_ | refine LOps.outA ?_ | refine LOps.whenA ?_ | refine LOps.pickA ?_ | refine LOps.storeA ?_)
  skip
  refine LOps.do (LDo.alloc hD rfl rfl rfl) rfl rfl rfl ?_
  rintro _ _ ⟨b11, hb11, rfl, rfl⟩
  have n5_11 := fresh_ne hb11 k5
  have m11_5 := n5_11.symm
  have s11 := hle.none hb11
  refine LOps.gen (fun S' => S.le S' ∧ S'.box b5 = some (ndL n) ∧ S'.box b11 = some (ndX noNd (.sl .nil []) (.sl .nil []) (.sl .nil []))) ⟨hle.newBox hb11 _, (box_new_ne _ _ n5_11).trans k5, box_new _ _ _⟩ ?_
  clear hle hb11 k5
  rintro S11 ⟨hle, k5, k11⟩
  repeat (first | refine LOps.nil ?_ | refine andThen_normal ?_ | refine andThen_exit ?_ | refine andThen_ret ?_ | refine inBlock_normal ?_ | refine inBlock_ret ?_ | refine inBlock_here ?_ | refine inBlock_out rfl ?_ | refine LWp.seq ?_ | refine LWp.region ?_ | refine LWp.block ?_ | refine LWp.exit ?_ | refine LWp.ret ?_ | refine LWp.skip ?_ | refine LOps.valA ?_ | refine LOps.outA ?_ | refine LOps.whenA ?_ | refine LOps.pickA ?_)
  refine LOps.storeA (b := b11) (off := 0) (cs := ndX noNd (.sl .nil []) (.sl .nil []) (.sl .nil [])) (l := ndL p) ?_
  refine LOps.gen (fun S' => S.le S' ∧ S'.box b5 = some (ndL n) ∧ S'.box b11 = some (ndL p)) ⟨hle.setBox s11 _, (box_set_ne _ _ n5_11).trans k5, (box_set _ _ _).trans (congrArg some (rfl))⟩ ?_
  clear hle k5 k11
  rintro Ss ⟨hle, k5, k11⟩
  repeat (first | refine LOps.valH (LVal.load hD rfl rfl k11 rfl rfl) ?_ | refine LOps.nil ?_ | refine andThen_normal ?_ | refine andThen_exit ?_ | refine andThen_ret ?_ | refine inBlock_normal ?_ | refine inBlock_ret ?_ | refine inBlock_here ?_ | refine inBlock_out rfl ?_ | refine LWp.seq ?_ | refine LWp.region ?_ | refine LWp.block ?_ | refine LWp.exit ?_ | refine LWp.ret ?_ | refine LWp.skip ?_ | refine LOps.val (LVal.call rfl rfl (by rw [hP]; exact Try.func26) rfl (by decide) (c2)) rfl rfl rfl ?_ | refine LOps.whenC (LVal.call rfl rfl (by rw [hP]; exact Try.func26) rfl (by decide) (c2)) ?_ | refine LOps.valA ?_ | refine LOps.outA ?_ | refine LOps.whenA ?_ | refine LOps.pickA ?_ | refine LOps.storeA ?_)
  skip
  refine LOps.do (LDo.alloc hD rfl rfl rfl) rfl rfl rfl ?_
  rintro _ _ ⟨b14, hb14, rfl, rfl⟩
  have n5_14 := fresh_ne hb14 k5
  have m14_5 := n5_14.symm
  have n11_14 := fresh_ne hb14 k11
  have m14_11 := n11_14.symm
  have s14 := hle.none hb14
  refine LOps.gen (fun S' => S.le S' ∧ S'.box b5 = some (ndL n) ∧ S'.box b11 = some (ndL p) ∧ S'.box b14 = some (ndX noNd (.sl .nil []) (.sl .nil []) (.sl .nil []))) ⟨hle.newBox hb14 _, (box_new_ne _ _ n5_14).trans k5, (box_new_ne _ _ n11_14).trans k11, box_new _ _ _⟩ ?_
  clear hle hb14 k5 k11
  rintro S14 ⟨hle, k5, k11, k14⟩
  repeat (first | refine LOps.nil ?_ | refine andThen_normal ?_ | refine andThen_exit ?_ | refine andThen_ret ?_ | refine inBlock_normal ?_ | refine inBlock_ret ?_ | refine inBlock_here ?_ | refine inBlock_out rfl ?_ | refine LWp.seq ?_ | refine LWp.region ?_ | refine LWp.block ?_ | refine LWp.exit ?_ | refine LWp.ret ?_ | refine LWp.skip ?_ | refine LOps.valA ?_ | refine LOps.outA ?_ | refine LOps.whenA ?_ | refine LOps.pickA ?_)
  refine LOps.storeA (b := b14) (off := 0) (cs := ndX noNd (.sl .nil []) (.sl .nil []) (.sl .nil [])) (l := ndL p) ?_
  refine LOps.gen (fun S' => S.le S' ∧ S'.box b5 = some (ndL n) ∧ S'.box b11 = some (ndL p) ∧ S'.box b14 = some (ndL p)) ⟨hle.setBox s14 _, (box_set_ne _ _ n5_14).trans k5, (box_set_ne _ _ n11_14).trans k11, (box_set _ _ _).trans (congrArg some (rfl))⟩ ?_
  clear hle k5 k11 k14
  rintro Ss ⟨hle, k5, k11, k14⟩
  repeat (first | refine LOps.valH (LVal.load hD rfl rfl k11 rfl rfl) ?_ | refine LOps.valH (LVal.load hD rfl rfl k14 rfl rfl) ?_ | refine LOps.nil ?_ | refine andThen_normal ?_ | refine andThen_exit ?_ | refine andThen_ret ?_ | refine inBlock_normal ?_ | refine inBlock_ret ?_ | refine inBlock_here ?_ | refine inBlock_out rfl ?_ | refine LWp.seq ?_ | refine LWp.region ?_ | refine LWp.block ?_ | refine LWp.exit ?_ | refine LWp.ret ?_ | refine LWp.skip ?_ | refine LOps.val (LVal.call rfl rfl (by rw [hP]; exact Try.func16) rfl (by decide) (c5)) rfl rfl rfl ?_ | refine LOps.val (LVal.call rfl rfl (by rw [hP]; exact Try.func22) rfl (by decide) (c6)) rfl rfl rfl ?_ | refine LOps.whenC (LVal.call rfl rfl (by rw [hP]; exact Try.func16) rfl (by decide) (c5)) ?_ | refine LOps.whenC (LVal.call rfl rfl (by rw [hP]; exact Try.func22) rfl (by decide) (c6)) ?_ | refine LOps.valA ?_ | refine LOps.outA ?_ | refine LOps.whenA ?_ | refine LOps.pickA ?_ | refine LOps.storeA ?_)
  refine LWp.cond rfl (fun hx => ?_) (fun hx => ?_)
  · exfalso; simp at hx
  clear hx
  repeat (first | refine LOps.valH (LVal.load hD rfl rfl k11 rfl rfl) ?_ | refine LOps.nil ?_ | refine andThen_normal ?_ | refine andThen_exit ?_ | refine andThen_ret ?_ | refine inBlock_normal ?_ | refine inBlock_ret ?_ | refine inBlock_here ?_ | refine inBlock_out rfl ?_ | refine LWp.seq ?_ | refine LWp.region ?_ | refine LWp.block ?_ | refine LWp.exit ?_ | refine LWp.ret ?_ | refine LWp.skip ?_ | refine LOps.val (LVal.call rfl rfl (by rw [hP]; exact Try.func27) rfl (by decide) (c3)) rfl rfl rfl ?_ | refine LOps.whenC (LVal.call rfl rfl (by rw [hP]; exact Try.func27) rfl (by decide) (c3)) ?_ | refine LOps.valA ?_ | refine LOps.outA ?_ | refine LOps.whenA ?_ | refine LOps.pickA ?_ | refine LOps.storeA ?_)
  skip
  refine LOps.do (LDo.alloc hD rfl rfl rfl) rfl rfl rfl ?_
  rintro _ _ ⟨b17, hb17, rfl, rfl⟩
  have n5_17 := fresh_ne hb17 k5
  have m17_5 := n5_17.symm
  have n11_17 := fresh_ne hb17 k11
  have m17_11 := n11_17.symm
  have n14_17 := fresh_ne hb17 k14
  have m17_14 := n14_17.symm
  have s17 := hle.none hb17
  refine LOps.gen (fun S' => S.le S' ∧ S'.box b5 = some (ndL n) ∧ S'.box b11 = some (ndL p) ∧ S'.box b14 = some (ndL p) ∧ S'.box b17 = some (ndX noNd (.sl .nil []) (.sl .nil []) (.sl .nil []))) ⟨hle.newBox hb17 _, (box_new_ne _ _ n5_17).trans k5, (box_new_ne _ _ n11_17).trans k11, (box_new_ne _ _ n14_17).trans k14, box_new _ _ _⟩ ?_
  clear hle hb17 k5 k11 k14
  rintro S17 ⟨hle, k5, k11, k14, k17⟩
  repeat (first | refine LOps.nil ?_ | refine andThen_normal ?_ | refine andThen_exit ?_ | refine andThen_ret ?_ | refine inBlock_normal ?_ | refine inBlock_ret ?_ | refine inBlock_here ?_ | refine inBlock_out rfl ?_ | refine LWp.seq ?_ | refine LWp.region ?_ | refine LWp.block ?_ | refine LWp.exit ?_ | refine LWp.ret ?_ | refine LWp.skip ?_ | refine LOps.valA ?_ | refine LOps.outA ?_ | refine LOps.whenA ?_ | refine LOps.pickA ?_)
  refine LOps.storeA (b := b17) (off := 0) (cs := ndX noNd (.sl .nil []) (.sl .nil []) (.sl .nil [])) (l := ndL d) ?_
  refine LOps.gen (fun S' => S.le S' ∧ S'.box b5 = some (ndL n) ∧ S'.box b11 = some (ndL p) ∧ S'.box b14 = some (ndL p) ∧ S'.box b17 = some (ndL d)) ⟨hle.setBox s17 _, (box_set_ne _ _ n5_17).trans k5, (box_set_ne _ _ n11_17).trans k11, (box_set_ne _ _ n14_17).trans k14, (box_set _ _ _).trans (congrArg some (rfl))⟩ ?_
  clear hle k5 k11 k14 k17
  rintro Ss ⟨hle, k5, k11, k14, k17⟩
  repeat (first | refine LOps.valH (LVal.load hD rfl rfl k5 rfl rfl) ?_ | refine LOps.nil ?_ | refine andThen_normal ?_ | refine andThen_exit ?_ | refine andThen_ret ?_ | refine inBlock_normal ?_ | refine inBlock_ret ?_ | refine inBlock_here ?_ | refine inBlock_out rfl ?_ | refine LWp.seq ?_ | refine LWp.region ?_ | refine LWp.block ?_ | refine LWp.exit ?_ | refine LWp.ret ?_ | refine LWp.skip ?_ | refine LOps.val (LVal.call rfl rfl (by rw [hP]; exact Try.func27) rfl (by decide) (c4)) rfl rfl rfl ?_ | refine LOps.whenC (LVal.call rfl rfl (by rw [hP]; exact Try.func27) rfl (by decide) (c4)) ?_ | refine LOps.valA ?_ | refine LOps.outA ?_ | refine LOps.whenA ?_ | refine LOps.pickA ?_ | refine LOps.storeA ?_)
  skip
  refine LOps.do (LDo.alloc hD rfl rfl rfl) rfl rfl rfl ?_
  rintro _ _ ⟨b20, hb20, rfl, rfl⟩
  have n5_20 := fresh_ne hb20 k5
  have m20_5 := n5_20.symm
  have n11_20 := fresh_ne hb20 k11
  have m20_11 := n11_20.symm
  have n14_20 := fresh_ne hb20 k14
  have m20_14 := n14_20.symm
  have n17_20 := fresh_ne hb20 k17
  have m20_17 := n17_20.symm
  have s20 := hle.none hb20
  refine LOps.gen (fun S' => S.le S' ∧ S'.box b5 = some (ndL n) ∧ S'.box b11 = some (ndL p) ∧ S'.box b14 = some (ndL p) ∧ S'.box b17 = some (ndL d) ∧ S'.box b20 = some (ndX noNd (.sl .nil []) (.sl .nil []) (.sl .nil []))) ⟨hle.newBox hb20 _, (box_new_ne _ _ n5_20).trans k5, (box_new_ne _ _ n11_20).trans k11, (box_new_ne _ _ n14_20).trans k14, (box_new_ne _ _ n17_20).trans k17, box_new _ _ _⟩ ?_
  clear hle hb20 k5 k11 k14 k17
  rintro S20 ⟨hle, k5, k11, k14, k17, k20⟩
  repeat (first | refine LOps.nil ?_ | refine andThen_normal ?_ | refine andThen_exit ?_ | refine andThen_ret ?_ | refine inBlock_normal ?_ | refine inBlock_ret ?_ | refine inBlock_here ?_ | refine inBlock_out rfl ?_ | refine LWp.seq ?_ | refine LWp.region ?_ | refine LWp.block ?_ | refine LWp.exit ?_ | refine LWp.ret ?_ | refine LWp.skip ?_ | refine LOps.valA ?_ | refine LOps.outA ?_ | refine LOps.whenA ?_ | refine LOps.pickA ?_)
  refine LOps.storeA (b := b20) (off := 0) (cs := ndX noNd (.sl .nil []) (.sl .nil []) (.sl .nil [])) (l := ndL d) ?_
  refine LOps.gen (fun S' => S.le S' ∧ S'.box b5 = some (ndL n) ∧ S'.box b11 = some (ndL p) ∧ S'.box b14 = some (ndL p) ∧ S'.box b17 = some (ndL d) ∧ S'.box b20 = some (ndL d)) ⟨hle.setBox s20 _, (box_set_ne _ _ n5_20).trans k5, (box_set_ne _ _ n11_20).trans k11, (box_set_ne _ _ n14_20).trans k14, (box_set_ne _ _ n17_20).trans k17, (box_set _ _ _).trans (congrArg some (rfl))⟩ ?_
  clear hle k5 k11 k14 k17 k20
  rintro Ss ⟨hle, k5, k11, k14, k17, k20⟩
  repeat (first | refine LOps.valH (LVal.load hD rfl rfl k5 rfl rfl) ?_ | refine LOps.valH (LVal.load hD rfl rfl k17 rfl rfl) ?_ | refine LOps.valH (LVal.load hD rfl rfl k20 rfl rfl) ?_ | refine LOps.nil ?_ | refine andThen_normal ?_ | refine andThen_exit ?_ | refine andThen_ret ?_ | refine inBlock_normal ?_ | refine inBlock_ret ?_ | refine inBlock_here ?_ | refine inBlock_out rfl ?_ | refine LWp.seq ?_ | refine LWp.region ?_ | refine LWp.block ?_ | refine LWp.exit ?_ | refine LWp.ret ?_ | refine LWp.skip ?_ | refine LOps.val (LVal.call rfl rfl (by rw [hP]; exact Try.func22) rfl (by decide) (c7)) rfl rfl rfl ?_ | refine LOps.val (LVal.call rfl rfl (by rw [hP]; exact Try.func22) rfl (by decide) (c8)) rfl rfl rfl ?_ | refine LOps.whenC (LVal.call rfl rfl (by rw [hP]; exact Try.func22) rfl (by decide) (c7)) ?_ | refine LOps.whenC (LVal.call rfl rfl (by rw [hP]; exact Try.func22) rfl (by decide) (c8)) ?_ | refine LOps.valA ?_ | refine LOps.outA ?_ | refine LOps.whenA ?_ | refine LOps.pickA ?_ | refine LOps.storeA ?_)
  refine LWp.cond rfl (fun hx => ?_) (fun hx => ?_)
  · exfalso
    cases hq : (getP l a).isSome with
    | true => rw [hq] at hx; simp at hx
    | false => have e := hno hq; rw [hq] at hx; simp [e] at hx
  clear hx
  repeat (first | refine LOps.nil ?_ | refine andThen_normal ?_ | refine andThen_exit ?_ | refine andThen_ret ?_ | refine inBlock_normal ?_ | refine inBlock_ret ?_ | refine inBlock_here ?_ | refine inBlock_out rfl ?_ | refine LWp.seq ?_ | refine LWp.region ?_ | refine LWp.block ?_ | refine LWp.exit ?_ | refine LWp.ret ?_ | refine LWp.skip ?_ | refine LOps.valA ?_ | refine LOps.outA ?_ | refine LOps.whenA ?_ | refine LOps.pickA ?_ | refine LOps.storeA ?_)
  refine LWp.cond rfl (fun hx => ?_) (fun hx => ?_)
  · repeat (first | refine LOps.nil ?_ | refine andThen_normal ?_ | refine andThen_exit ?_ | refine andThen_ret ?_ | refine inBlock_normal ?_ | refine inBlock_ret ?_ | refine inBlock_here ?_ | refine inBlock_out rfl ?_ | refine LWp.seq ?_ | refine LWp.region ?_ | refine LWp.block ?_ | refine LWp.exit ?_ | refine LWp.ret ?_ | refine LWp.skip ?_ | refine LOps.valA ?_ | refine LOps.outA ?_ | refine LOps.whenA ?_ | refine LOps.pickA ?_ | refine LOps.storeA ?_)
    exact ⟨_, LRes.one rfl, rfl⟩
  have hx : decide (a = b) = false := hx
  rw [hcomm (by simpa using hx)] at c11
  generalize ofP n (setP (setP l a x) b y) = r at *
  repeat (first | refine LOps.valH (LVal.load hD rfl rfl k11 rfl rfl) ?_ | refine LOps.nil ?_ | refine andThen_normal ?_ | refine andThen_exit ?_ | refine andThen_ret ?_ | refine inBlock_normal ?_ | refine inBlock_ret ?_ | refine inBlock_here ?_ | refine inBlock_out rfl ?_ | refine LWp.seq ?_ | refine LWp.region ?_ | refine LWp.block ?_ | refine LWp.exit ?_ | refine LWp.ret ?_ | refine LWp.skip ?_ | refine LOps.val (LVal.call rfl rfl (by rw [hP]; exact Try.func26) rfl (by decide) (c9)) rfl rfl rfl ?_ | refine LOps.whenC (LVal.call rfl rfl (by rw [hP]; exact Try.func26) rfl (by decide) (c9)) ?_ | refine LOps.valA ?_ | refine LOps.outA ?_ | refine LOps.whenA ?_ | refine LOps.pickA ?_ | refine LOps.storeA ?_)
  skip
  refine LOps.do (LDo.alloc hD rfl rfl rfl) rfl rfl rfl ?_
  rintro _ _ ⟨b23, hb23, rfl, rfl⟩
  have n5_23 := fresh_ne hb23 k5
  have m23_5 := n5_23.symm
  have n11_23 := fresh_ne hb23 k11
  have m23_11 := n11_23.symm
  have n14_23 := fresh_ne hb23 k14
  have m23_14 := n14_23.symm
  have n17_23 := fresh_ne hb23 k17
  have m23_17 := n17_23.symm
  have n20_23 := fresh_ne hb23 k20
  have m23_20 := n20_23.symm
  have s23 := hle.none hb23
  refine LOps.gen (fun S' => S.le S' ∧ S'.box b5 = some (ndL n) ∧ S'.box b11 = some (ndL p) ∧ S'.box b14 = some (ndL p) ∧ S'.box b17 = some (ndL d) ∧ S'.box b20 = some (ndL d) ∧ S'.box b23 = some (ndX noNd (.sl .nil []) (.sl .nil []) (.sl .nil []))) ⟨hle.newBox hb23 _, (box_new_ne _ _ n5_23).trans k5, (box_new_ne _ _ n11_23).trans k11, (box_new_ne _ _ n14_23).trans k14, (box_new_ne _ _ n17_23).trans k17, (box_new_ne _ _ n20_23).trans k20, box_new _ _ _⟩ ?_
  clear hle hb23 k5 k11 k14 k17 k20
  rintro S23 ⟨hle, k5, k11, k14, k17, k20, k23⟩
  repeat (first | refine LOps.nil ?_ | refine andThen_normal ?_ | refine andThen_exit ?_ | refine andThen_ret ?_ | refine inBlock_normal ?_ | refine inBlock_ret ?_ | refine inBlock_here ?_ | refine inBlock_out rfl ?_ | refine LWp.seq ?_ | refine LWp.region ?_ | refine LWp.block ?_ | refine LWp.exit ?_ | refine LWp.ret ?_ | refine LWp.skip ?_ | refine LOps.valA ?_ | refine LOps.outA ?_ | refine LOps.whenA ?_ | refine LOps.pickA ?_)
  refine LOps.storeA (b := b23) (off := 0) (cs := ndX noNd (.sl .nil []) (.sl .nil []) (.sl .nil [])) (l := ndL r) ?_
  refine LOps.gen (fun S' => S.le S' ∧ S'.box b5 = some (ndL n) ∧ S'.box b11 = some (ndL p) ∧ S'.box b14 = some (ndL p) ∧ S'.box b17 = some (ndL d) ∧ S'.box b20 = some (ndL d) ∧ S'.box b23 = some (ndL r)) ⟨hle.setBox s23 _, (box_set_ne _ _ n5_23).trans k5, (box_set_ne _ _ n11_23).trans k11, (box_set_ne _ _ n14_23).trans k14, (box_set_ne _ _ n17_23).trans k17, (box_set_ne _ _ n20_23).trans k20, (box_set _ _ _).trans (congrArg some (rfl))⟩ ?_
  clear hle k5 k11 k14 k17 k20 k23
  rintro Ss ⟨hle, k5, k11, k14, k17, k20, k23⟩
  repeat (first | refine LOps.valH (LVal.load hD rfl rfl k5 rfl rfl) ?_ | refine LOps.nil ?_ | refine andThen_normal ?_ | refine andThen_exit ?_ | refine andThen_ret ?_ | refine inBlock_normal ?_ | refine inBlock_ret ?_ | refine inBlock_here ?_ | refine inBlock_out rfl ?_ | refine LWp.seq ?_ | refine LWp.region ?_ | refine LWp.block ?_ | refine LWp.exit ?_ | refine LWp.ret ?_ | refine LWp.skip ?_ | refine LOps.val (LVal.call rfl rfl (by rw [hP]; exact Try.func26) rfl (by decide) (c10)) rfl rfl rfl ?_ | refine LOps.whenC (LVal.call rfl rfl (by rw [hP]; exact Try.func26) rfl (by decide) (c10)) ?_ | refine LOps.valA ?_ | refine LOps.outA ?_ | refine LOps.whenA ?_ | refine LOps.pickA ?_ | refine LOps.storeA ?_)
  skip
  refine LOps.do (LDo.alloc hD rfl rfl rfl) rfl rfl rfl ?_
  rintro _ _ ⟨b26, hb26, rfl, rfl⟩
  have n5_26 := fresh_ne hb26 k5
  have m26_5 := n5_26.symm
  have n11_26 := fresh_ne hb26 k11
  have m26_11 := n11_26.symm
  have n14_26 := fresh_ne hb26 k14
  have m26_14 := n14_26.symm
  have n17_26 := fresh_ne hb26 k17
  have m26_17 := n17_26.symm
  have n20_26 := fresh_ne hb26 k20
  have m26_20 := n20_26.symm
  have n23_26 := fresh_ne hb26 k23
  have m26_23 := n23_26.symm
  have s26 := hle.none hb26
  refine LOps.gen (fun S' => S.le S' ∧ S'.box b5 = some (ndL n) ∧ S'.box b11 = some (ndL p) ∧ S'.box b14 = some (ndL p) ∧ S'.box b17 = some (ndL d) ∧ S'.box b20 = some (ndL d) ∧ S'.box b23 = some (ndL r) ∧ S'.box b26 = some (ndX noNd (.sl .nil []) (.sl .nil []) (.sl .nil []))) ⟨hle.newBox hb26 _, (box_new_ne _ _ n5_26).trans k5, (box_new_ne _ _ n11_26).trans k11, (box_new_ne _ _ n14_26).trans k14, (box_new_ne _ _ n17_26).trans k17, (box_new_ne _ _ n20_26).trans k20, (box_new_ne _ _ n23_26).trans k23, box_new _ _ _⟩ ?_
  clear hle hb26 k5 k11 k14 k17 k20 k23
  rintro S26 ⟨hle, k5, k11, k14, k17, k20, k23, k26⟩
  repeat (first | refine LOps.nil ?_ | refine andThen_normal ?_ | refine andThen_exit ?_ | refine andThen_ret ?_ | refine inBlock_normal ?_ | refine inBlock_ret ?_ | refine inBlock_here ?_ | refine inBlock_out rfl ?_ | refine LWp.seq ?_ | refine LWp.region ?_ | refine LWp.block ?_ | refine LWp.exit ?_ | refine LWp.ret ?_ | refine LWp.skip ?_ | refine LOps.valA ?_ | refine LOps.outA ?_ | refine LOps.whenA ?_ | refine LOps.pickA ?_)
  refine LOps.storeA (b := b26) (off := 0) (cs := ndX noNd (.sl .nil []) (.sl .nil []) (.sl .nil [])) (l := ndL s) ?_
  refine LOps.gen (fun S' => S.le S' ∧ S'.box b5 = some (ndL n) ∧ S'.box b11 = some (ndL p) ∧ S'.box b14 = some (ndL p) ∧ S'.box b17 = some (ndL d) ∧ S'.box b20 = some (ndL d) ∧ S'.box b23 = some (ndL r) ∧ S'.box b26 = some (ndL s)) ⟨hle.setBox s26 _, (box_set_ne _ _ n5_26).trans k5, (box_set_ne _ _ n11_26).trans k11, (box_set_ne _ _ n14_26).trans k14, (box_set_ne _ _ n17_26).trans k17, (box_set_ne _ _ n20_26).trans k20, (box_set_ne _ _ n23_26).trans k23, (box_set _ _ _).trans (congrArg some (rfl))⟩ ?_
  clear hle k5 k11 k14 k17 k20 k23 k26
  rintro Ss ⟨hle, k5, k11, k14, k17, k20, k23, k26⟩
  repeat (first | refine LOps.valH (LVal.load hD rfl rfl k26 rfl rfl) ?_ | refine LOps.nil ?_ | refine andThen_normal ?_ | refine andThen_exit ?_ | refine andThen_ret ?_ | refine inBlock_normal ?_ | refine inBlock_ret ?_ | refine inBlock_here ?_ | refine inBlock_out rfl ?_ | refine LWp.seq ?_ | refine LWp.region ?_ | refine LWp.block ?_ | refine LWp.exit ?_ | refine LWp.ret ?_ | refine LWp.skip ?_ | refine LOps.val (LVal.call rfl rfl (by rw [hP]; exact Try.func26) rfl (by decide) (c11)) rfl rfl rfl ?_ | refine LOps.whenC (LVal.call rfl rfl (by rw [hP]; exact Try.func26) rfl (by decide) (c11)) ?_ | refine LOps.valA ?_ | refine LOps.outA ?_ | refine LOps.whenA ?_ | refine LOps.pickA ?_)
  refine LOps.storeA (b := b26) (off := 0) (cs := ndL s) (l := ndL r) ?_
  refine LOps.gen (fun S' => S.le S' ∧ S'.box b5 = some (ndL n) ∧ S'.box b11 = some (ndL p) ∧ S'.box b14 = some (ndL p) ∧ S'.box b17 = some (ndL d) ∧ S'.box b20 = some (ndL d) ∧ S'.box b23 = some (ndL r) ∧ S'.box b26 = some (ndL r)) ⟨hle.setBox s26 _, (box_set_ne _ _ n5_26).trans k5, (box_set_ne _ _ n11_26).trans k11, (box_set_ne _ _ n14_26).trans k14, (box_set_ne _ _ n17_26).trans k17, (box_set_ne _ _ n20_26).trans k20, (box_set_ne _ _ n23_26).trans k23, (box_set _ _ _).trans (congrArg some (rfl))⟩ ?_
  clear hle k5 k11 k14 k17 k20 k23 k26
  rintro Ss ⟨hle, k5, k11, k14, k17, k20, k23, k26⟩
  repeat (first | refine LOps.valH (LVal.load hD rfl rfl k23 rfl rfl) ?_ | refine LOps.valH (LVal.load hD rfl rfl k26 rfl rfl) ?_ | refine LOps.nil ?_ | refine andThen_normal ?_ | refine andThen_exit ?_ | refine andThen_ret ?_ | refine inBlock_normal ?_ | refine inBlock_ret ?_ | refine inBlock_here ?_ | refine inBlock_out rfl ?_ | refine LWp.seq ?_ | refine LWp.region ?_ | refine LWp.block ?_ | refine LWp.exit ?_ | refine LWp.ret ?_ | refine LWp.skip ?_ | refine LOps.val (LVal.call rfl rfl (by rw [hP]; exact Try.func22) rfl (by decide) (c12)) rfl rfl rfl ?_ | refine LOps.whenC (LVal.call rfl rfl (by rw [hP]; exact Try.func22) rfl (by decide) (c12)) ?_ | refine LOps.valA ?_ | refine LOps.outA ?_ | refine LOps.whenA ?_ | refine LOps.pickA ?_ | refine LOps.storeA ?_)
  refine ⟨_, LRes.one rfl, ?_⟩
  show TV.one (bv (decide (r = r))) = _
  rw [decide_eq_true rfl]
end Go.Proofs.Ytjcpcgneghanfaa.LF

namespace Go.Proofs.Ytjcpcgneghanfaa
open Go.RowKit LF
theorem blnodeOnce_walk (W : World) (v0 : Value) (l0 : List LV) (y0 : Typed LF.D 28 l0) (g0 : RepT (G0 Try.prog W) W (allCells W) (argTV ti28 l0) v0) (v1 : Value) (l1 : List LV) (y1 : Typed LF.D 9 l1) (g1 : RepT (G0 Try.prog W) W (allCells W) (argTV ti9 l1) v1) (v2 : Value) (l2 : List LV) (y2 : Typed LF.D 9 l2) (g2 : RepT (G0 Try.prog W) W (allCells W) (argTV ti9 l2) v2) (v3 : Value) (l3 : List LV) (y3 : Typed LF.D 9 l3) (g3 : RepT (G0 Try.prog W) W (allCells W) (argTV ti9 l3) v3) (v4 : Value) (l4 : List LV) (y4 : Typed LF.D 9 l4) (g4 : RepT (G0 Try.prog W) W (allCells W) (argTV ti9 l4) v4) :
    Calls Try.prog 6 #[v0, v1, v2, v3, v4] W fun e W' => e = .returned (.bool true) ∧ Below W.heap.size W W' := by
  obtain ⟨n, rfl, hz⟩ := typed_nd y0
  obtain ⟨a, rfl, ha⟩ := typed_key y1
  obtain ⟨b, rfl, hb⟩ := typed_key y2
  obtain ⟨x, rfl, hx⟩ := typed_key y3
  obtain ⟨y, rfl, hy⟩ := typed_key y4
  exact law_calls (fun G S h => once_L h n hz a b x y S) (.cons (vs := [v1, v2, v3, v4]) g0 (.cons (vs := [v2, v3, v4]) g1 (.cons (vs := [v3, v4]) g2 (.cons (vs := [v4]) g3 (.cons (vs := []) g4 .nil)))))
end Go.Proofs.Ytjcpcgneghanfaa
