/- The walk of the law 'BlnodeWrites'. (Printed by gen_bwrites.py.) -/
import Derived.Test.YtjcpcgneghanfaaLBw
import Derived.Test.YtjcpcgneghanfaaLBy
import Derived.Test.YtjcpcgneghanfaaLBt
set_option linter.unusedVariables false
set_option linter.unusedSimpArgs false
namespace Go.Proofs.Ytjcpcgneghanfaa.LF
open Go.RowKit
set_option linter.unusedVariables false

theorem get_same (n : NdV) (k v : ByteArray) : (delN n k).2 = (putN n k v).2 := by
  unfold delN putN
  cases takesN n k <;> cases hasK n.keys k <;> rfl
theorem pairs_lf {n : NdV} {l : List Pr} (h : Lf n l) : pairsN n = l := by
  unfold pairsN
  rw [h.keys, h.vals]
  apply List.ext_getElem (by simp)
  intro i h1 h2; simp
theorem takes_lf {n : NdV} {k : ByteArray} (h : takesN n k = true) : ∃ l, Lf n l ∧ coversN n k = true := by
  obtain ⟨h1, h2, h3⟩ := takesN_is h
  obtain ⟨l, L⟩ := Lf.of h2 h1
  exact ⟨l, L, h3⟩
theorem put_ok {n : NdV} (hk : n.keys.length ≤ 300 ∧ n.vals.length ≤ 300 ∧ n.kids.length ≤ 301) (k v : ByteArray) : (putN n k v).1.ok ∧ (delN n k).1.ok := by
  cases ht : takesN n k with
  | false =>
    rw [put_no ht, del_no ht]
    have hn : n.ok := ⟨by omega, by omega, by omega⟩
    exact ⟨hn, hn⟩
  | true =>
    obtain ⟨l, L, hc⟩ := takes_lf ht
    have hll := L.len
    rw [L.put hc, L.del hc]
    have h1 := setP_len l k v
    have h2 := dropP_len l k
    exact ⟨(L.set hc v).fit (by omega), (L.drop k).fit (by omega)⟩
theorem add_ok {n : NdV} (hk : n.keys.length ≤ 300 ∧ n.vals.length ≤ 300 ∧ n.kids.length ≤ 301) (k : ByteArray) (h : HdV) : (addN n k h).ok := by
  cases hs : shutN n k with
  | true => rw [addN, if_pos hs]; exact ⟨by omega, by omega, by omega⟩
  | false => exact (add_all (shutN_no hs).2.2.1 hk k h).2
theorem wantA_is {n : NdV} {k : ByteArray} (h : takesN n k = true) (v : ByteArray) : ofP n (putD (pairsN n) k v) = (putN n k v).1 ∧ ofP n (dropD (pairsN n) k) = (delN n k).1 := by
  obtain ⟨l, L, hc⟩ := takes_lf h
  rw [pairs_lf L, putD_srt L.srt, dropD_srt L.srt, L.put hc, L.del hc]
  exact ⟨rfl, rfl⟩
theorem was_is {n : NdV} {k : ByteArray} (h : takesN n k = true) (v : ByteArray) : (findD (pairsN n) k).getD noBytes = (putN n k v).2.1 ∧ (findD (pairsN n) k).isSome = (putN n k v).2.2 := by
  obtain ⟨l, L, hc⟩ := takes_lf h
  rw [pairs_lf L, findD_srt L.srt, L.put hc]
  exact ⟨rfl, rfl⟩
theorem shut_is {n : NdV} {k : ByteArray} : (((rightN n && coversN n k) && !n.leaf) && !anyA n.keys k) = !shutN n k := by
  unfold shutN
  cases hr : rightN n with
  | false => simp
  | true =>
    rw [any_eq (rightN_rises hr)]
    cases coversN n k <;> cases n.leaf <;> cases hasK n.keys k <;> rfl

theorem Raw.base {S0 S1 S : LS} {n : NdV} {X Y Z : LV} (R : Raw S1 S n X Y Z) (h : S0.le S1) : Raw S0 S n X Y Z := by
  have hno : ∀ c, S1.box c = none → S0.box c = none := fun c hc => by
    cases hq : S0.box c with
    | none => rfl
    | some cs => rw [h.box c cs hq] at hc; cases hc
  exact ⟨R.x, R.y, R.z, fun c h => hno c (R.nx c h), fun c h => hno c (R.ny c h), fun c h => hno c (R.nz c h), R.xy, R.xz, R.yz⟩
theorem Raw.le {S0 S S' : LS} {n : NdV} {X Y Z : LV} (R : Raw S0 S n X Y Z) (h : S.le S') : Raw S0 S' n X Y Z := R.keep fun c cs hc _ => h.box c cs hc
/-- Its slices are no box of theirs. -/
def Apt (X Y Z X' Y' Z' : LV) : Prop := ∀ c, blockOf X = some c ∨ blockOf Y = some c ∨ blockOf Z = some c → Off X' Y' Z' c
theorem Raw.apt {S0 S1 S2 : LS} {n m : NdV} {X Y Z X' Y' Z' : LV} (R : Raw S0 S1 n X Y Z) (R' : Raw S1 S2 m X' Y' Z') : Apt X Y Z X' Y' Z' := fun c hc => by
  have : ∃ cs, S1.box c = some cs := by
    rcases hc with h | h | h
    · exact R.x.block c h
    · exact R.y.block c h
    · exact R.z.block c h
  obtain ⟨cs, hcs⟩ := this
  exact R'.offOld hcs
theorem Raw.spo {S0 S S' : LS} {n : NdV} {X Y Z X' Y' Z' : LV} (R : Raw S0 S n X Y Z) (sp : Spo S X' Y' Z' S') (h : Apt X Y Z X' Y' Z') : Raw S0 S' n X Y Z := R.keep fun c cs hc hx => sp.box c cs hc (h c hx).1 (h c hx).2.1 (h c hx).2.2
theorem Apt.symm {X Y Z X' Y' Z' : LV} (h : Apt X Y Z X' Y' Z') : Apt X' Y' Z' X Y Z := fun c hc => by
  refine ⟨fun e => ?_, fun e => ?_, fun e => ?_⟩
  · have := h c (.inl e)
    rcases hc with h | h | h
    · exact this.1 h
    · exact this.2.1 h
    · exact this.2.2 h
  · have := h c (.inr (.inl e))
    rcases hc with h | h | h
    · exact this.1 h
    · exact this.2.1 h
    · exact this.2.2 h
  · have := h c (.inr (.inr e))
    rcases hc with h | h | h
    · exact this.1 h
    · exact this.2.1 h
    · exact this.2.2 h
theorem Raw.views {S0 S : LS} {n : NdV} {X Y Z : LV} (R : Raw S0 S n X Y Z) : views S (ndX n X Y Z) (ndL n) :=
  ⟨.same _, R.x.view sL_len, R.y.view sL_len, R.z.view hdL_len, .same _, .same _, .same _, .same _, trivial⟩
theorem nd_views (S : LS) (n : NdV) : views S (ndL n) (ndL n) := ⟨.same _, .same _, .same _, .same _, .same _, .same _, .same _, .same _, trivial⟩

/-- Three new variables with the same. -/
structure New3 (S S' : LS) (a b c : Nat) (v : List LV) : Prop where
  le : S.le S'
  ka : S'.box a = some v
  kb : S'.box b = some v
  kc : S'.box c = some v
  ab : a ≠ b
  ac : a ≠ c
  bc : b ≠ c
  na : S.box a = none
  nb : S.box b = none
  nc : S.box c = none
theorem new3_of {S S1 : LS} {a b c : Nat} {v : List LV} (h : S.le S1) (na : S.box a = none) (nb : S.box b = none) (nc : S.box c = none) (ab : a ≠ b) (ac : a ≠ c) (bc : b ≠ c) : New3 S (((S1.setBox a v).setBox b v).setBox c v) a b c v :=
  ⟨((h.setBox na _).setBox nb _).setBox nc _, (box_set_ne _ _ ac).trans ((box_set_ne _ _ ab).trans (box_set _ _ _)), (box_set_ne _ _ bc).trans (box_set _ _ _), box_set _ _ _, ab, ac, bc, na, nb, nc⟩
theorem fresh3 {S : LS} {a b c : Nat} {z1 z2 : List LV} (h1 : S.fresh a) (h2 : (S.newBox a z1).fresh b) (h3 : ((S.newBox a z1).newBox b z2).fresh c) : S.box a = none ∧ S.box b = none ∧ S.box c = none ∧ a ≠ b ∧ a ≠ c ∧ b ≠ c ∧ ∀ z3, S.le (((S.newBox a z1).newBox b z2).newBox c z3) ∧ (((S.newBox a z1).newBox b z2).newBox c z3).box a = some z1 ∧ (((S.newBox a z1).newBox b z2).newBox c z3).box b = some z2 ∧ (((S.newBox a z1).newBox b z2).newBox c z3).box c = some z3 := by
  have l1 := LS.le.newBox (.refl S) h1 z1
  have l2 := l1.newBox h2 z2
  have ab : a ≠ b := fresh_ne h2 (box_new S a z1)
  have ac : a ≠ c := fresh_ne h3 ((box_new_ne _ _ ab).trans (box_new S a z1))
  have bc : b ≠ c := fresh_ne h3 (box_new _ b z2)
  exact ⟨h1.box, l1.none h2, l2.none h3, ab, ac, bc, fun z3 => ⟨l2.newBox h3 z3, (box_new_ne _ _ ac).trans ((box_new_ne _ _ ab).trans (box_new S a z1)), (box_new_ne _ _ bc).trans (box_new _ b z2), box_new _ c z3⟩⟩
/-- Only these boxes were written. -/
def Sto (S S' : LS) (a b c : Nat) : Prop := ∀ d cs, S.box d = some cs → d ≠ a → d ≠ b → d ≠ c → S'.box d = some cs
theorem Raw.sto {S0 S S' : LS} {n : NdV} {X Y Z : LV} {a b c : Nat} (R : Raw S0 S n X Y Z) (h : Sto S S' a b c) (ha : Off X Y Z a) (hb : Off X Y Z b) (hc : Off X Y Z c) : Raw S0 S' n X Y Z := R.keep fun d cs hd hx => by
  refine h d cs hd (fun e => ?_) (fun e => ?_) (fun e => ?_) <;> subst e
  · rcases hx with h | h | h
    · exact ha.1 h
    · exact ha.2.1 h
    · exact ha.2.2 h
  · rcases hx with h | h | h
    · exact hb.1 h
    · exact hb.2.1 h
    · exact hb.2.2 h
  · rcases hx with h | h | h
    · exact hc.1 h
    · exact hc.2.1 h
    · exact hc.2.2 h
theorem stNd (n : NdV) : splice (lzero ti28) 0 (ndL n) = ndL n := rfl

set_option maxHeartbeats 64000000 in
set_option maxRecDepth 20000 in
theorem writes_L {G : Ctx} (hP : G.P = Try.prog) (n : NdV) (hz : n.sz) (key value : ByteArray) (hkz : key.size ≤ B47) (kid : HdV) (S : LS) : LCalls G 7 [.agg (ndL n), .one (sv key), .one (sv value), .agg (hdL kid)] (fun r _ => r = .one (bv true)) S := by
  have hD : TabOK G.P D := by rw [hP]; exact hD0
  have ca := awake_F hP
  have cg := great_F hP n hz
  refine LCalls.enter (fn := Try.f7) (by rw [hP]; exact Try.func7) rfl rfl ?_
  repeat (first | refine LOps.nil ?_ | refine andThen_normal ?_ | refine andThen_exit ?_ | refine andThen_ret ?_ | refine inBlock_normal ?_ | refine inBlock_ret ?_ | refine inBlock_here ?_ | refine inBlock_out rfl ?_ | refine LWp.seq ?_ | refine LWp.region ?_ | refine LWp.block ?_ | refine LWp.exit ?_ | refine LWp.ret ?_ | refine LWp.skip ?_ | refine LOps.valA ?_ | refine LOps.outA ?_ | refine LOps.whenA ?_ | refine LOps.pickA ?_ | refine LOps.storeA ?_)
  have hle := LS.le.refl S
  refine LOps.do (LDo.box rfl rfl) rfl rfl rfl ?_
  rintro _ _ ⟨b4, hb4, rfl, rfl⟩
  have s4 := hle.none hb4
  refine LOps.gen (fun S' => S.le S' ∧ S'.box b4 = some (ndL n)) ⟨hle.newBox hb4 _, box_new _ _ _⟩ ?_
  clear hle hb4 
  rintro S4 ⟨hle, k4⟩
  skip
  refine LOps.do (LDo.box rfl rfl) rfl rfl rfl ?_
  rintro _ _ ⟨b7, hb7, rfl, rfl⟩
  have n4_7 := fresh_ne hb7 k4
  have m7_4 := n4_7.symm
  have s7 := hle.none hb7
  refine LOps.gen (fun S' => S.le S' ∧ S'.box b4 = some (ndL n) ∧ S'.box b7 = some (hdL kid)) ⟨hle.newBox hb7 _, (box_new_ne _ _ n4_7).trans k4, box_new _ _ _⟩ ?_
  clear hle hb7 k4
  rintro S7 ⟨hle, k4, k7⟩
  repeat (first | refine LOps.nil ?_ | refine andThen_normal ?_ | refine andThen_exit ?_ | refine andThen_ret ?_ | refine inBlock_normal ?_ | refine inBlock_ret ?_ | refine inBlock_here ?_ | refine inBlock_out rfl ?_ | refine LWp.seq ?_ | refine LWp.region ?_ | refine LWp.block ?_ | refine LWp.exit ?_ | refine LWp.ret ?_ | refine LWp.skip ?_ | refine LOps.val (LVal.call rfl rfl (by rw [hP]; exact Try.func10) rfl (by decide) (ca)) rfl rfl rfl ?_ | refine LOps.whenC (LVal.call rfl rfl (by rw [hP]; exact Try.func10) rfl (by decide) (ca)) ?_ | refine LOps.valA ?_ | refine LOps.outA ?_ | refine LOps.whenA ?_ | refine LOps.pickA ?_ | refine LOps.storeA ?_)
  refine LWp.condF rfl ?_
  repeat (first | refine LOps.valH (LVal.load hD rfl rfl k4 rfl rfl) ?_ | refine LOps.nil ?_ | refine andThen_normal ?_ | refine andThen_exit ?_ | refine andThen_ret ?_ | refine inBlock_normal ?_ | refine inBlock_ret ?_ | refine inBlock_here ?_ | refine inBlock_out rfl ?_ | refine LWp.seq ?_ | refine LWp.region ?_ | refine LWp.block ?_ | refine LWp.exit ?_ | refine LWp.ret ?_ | refine LWp.skip ?_ | refine LOps.val (LVal.call rfl rfl (by rw [hP]; exact Try.func11) rfl (by decide) (cg)) rfl rfl rfl ?_ | refine LOps.whenC (LVal.call rfl rfl (by rw [hP]; exact Try.func11) rfl (by decide) (cg)) ?_ | refine LOps.valA ?_ | refine LOps.outA ?_ | refine LOps.whenA ?_ | refine LOps.pickA ?_ | refine LOps.storeA ?_)
  refine LWp.cond rfl (fun h => ?_) (fun h => ?_)
  · repeat (first | refine LOps.nil ?_ | refine andThen_normal ?_ | refine andThen_exit ?_ | refine andThen_ret ?_ | refine inBlock_normal ?_ | refine inBlock_ret ?_ | refine inBlock_here ?_ | refine inBlock_out rfl ?_ | refine LWp.seq ?_ | refine LWp.region ?_ | refine LWp.block ?_ | refine LWp.exit ?_ | refine LWp.ret ?_ | refine LWp.skip ?_ | refine LOps.valA ?_ | refine LOps.outA ?_ | refine LOps.whenA ?_ | refine LOps.pickA ?_ | refine LOps.storeA ?_)
    exact ⟨_, LRes.one rfl, rfl⟩
  have h : ((greatN n || decide ((key.size : Int) > 20000)) || decide ((value.size : Int) > 20000)) = false := h
  simp only [Bool.or_eq_false_iff] at h
  have hg := greatN_ok h.1.1
  clear h
  have hn : n.ok := ⟨by omega, by omega, by omega⟩
  have hpn : (pairsN n).length ≤ 100000 := by rw [pairsN_len]; have := hn.keys; omega
  have c1 := copied_F hP n hn
  have c2 := lright_F hP n hn hz
  have c3 := lcovers_F hP n hz key hkz
  have c4 := pairs_F hP n hn
  have c5 := get_F hP (pairsN n) hpn key
  obtain ⟨okA, okB⟩ := put_ok hg key value
  have okC := add_ok hg key kid
  have hsame := get_same n key value
  have htk : ((rightN n && coversN n key) && n.leaf) = takesN n key := by unfold takesN; cases rightN n <;> cases coversN n key <;> cases n.leaf <;> rfl
  repeat (first | refine LOps.valH (LVal.load hD rfl rfl k4 rfl rfl) ?_ | refine LOps.nil ?_ | refine andThen_normal ?_ | refine andThen_exit ?_ | refine andThen_ret ?_ | refine inBlock_normal ?_ | refine inBlock_ret ?_ | refine inBlock_here ?_ | refine inBlock_out rfl ?_ | refine LWp.seq ?_ | refine LWp.region ?_ | refine LWp.block ?_ | refine LWp.exit ?_ | refine LWp.ret ?_ | refine LWp.skip ?_ | refine LOps.val (LVal.call rfl rfl (by rw [hP]; exact Try.func23) rfl (by decide) (c1)) rfl rfl rfl ?_ | refine LOps.whenC (LVal.call rfl rfl (by rw [hP]; exact Try.func23) rfl (by decide) (c1)) ?_ | refine LOps.valA ?_ | refine LOps.outA ?_ | refine LOps.whenA ?_ | refine LOps.pickA ?_ | refine LOps.storeA ?_)
  skip
  refine LOps.do (LDo.alloc hD rfl rfl rfl) rfl rfl rfl ?_
  rintro _ _ ⟨b9, hb9, rfl, rfl⟩
  have n4_9 := fresh_ne hb9 k4
  have m9_4 := n4_9.symm
  have n7_9 := fresh_ne hb9 k7
  have m9_7 := n7_9.symm
  have s9 := hle.none hb9
  refine LOps.gen (fun S' => S.le S' ∧ S'.box b4 = some (ndL n) ∧ S'.box b7 = some (hdL kid) ∧ S'.box b9 = some (ndX noNd (.sl .nil []) (.sl .nil []) (.sl .nil []))) ⟨hle.newBox hb9 _, (box_new_ne _ _ n4_9).trans k4, (box_new_ne _ _ n7_9).trans k7, box_new _ _ _⟩ ?_
  clear hle hb9 k4 k7
  rintro S9 ⟨hle, k4, k7, k9⟩
  repeat (first | refine LOps.nil ?_ | refine andThen_normal ?_ | refine andThen_exit ?_ | refine andThen_ret ?_ | refine inBlock_normal ?_ | refine inBlock_ret ?_ | refine inBlock_here ?_ | refine inBlock_out rfl ?_ | refine LWp.seq ?_ | refine LWp.region ?_ | refine LWp.block ?_ | refine LWp.exit ?_ | refine LWp.ret ?_ | refine LWp.skip ?_ | refine LOps.valA ?_ | refine LOps.outA ?_ | refine LOps.whenA ?_ | refine LOps.pickA ?_)
  refine LOps.storeA (b := b9) (off := 0) (cs := ndX noNd (.sl .nil []) (.sl .nil []) (.sl .nil [])) (l := ndL n) ?_
  refine LOps.gen (fun S' => S.le S' ∧ S'.box b4 = some (ndL n) ∧ S'.box b7 = some (hdL kid) ∧ S'.box b9 = some (ndL n)) ⟨hle.setBox s9 _, (box_set_ne _ _ n4_9).trans k4, (box_set_ne _ _ n7_9).trans k7, (box_set _ _ _).trans (congrArg some (rfl))⟩ ?_
  clear hle k4 k7 k9
  rintro Ss ⟨hle, k4, k7, k9⟩
  repeat (first | refine LOps.valH (LVal.load hD rfl rfl k4 rfl rfl) ?_ | (refine LWp.seq (LWp.cut 8 (fun T' S' => S' = Ss ∧ ∃ (T'' : Nat → TV), T' = over T'' [(1, .one (sv key)), (2, .one (sv value)), (4, ptr b4), (7, ptr b7), (9, ptr b9), (10, .one (bv ((rightN n && coversN n key) && n.leaf))), (11, .one (sv (putN n key value).2.1)), (12, .one (bv (putN n key value).2.2))]) rfl ?_ ?_); rotate_left) | refine LOps.nil ?_ | refine andThen_normal ?_ | refine andThen_exit ?_ | refine andThen_ret ?_ | refine inBlock_normal ?_ | refine inBlock_ret ?_ | refine inBlock_here ?_ | refine inBlock_out rfl ?_ | refine LWp.seq ?_ | refine LWp.region ?_ | refine LWp.block ?_ | refine LWp.exit ?_ | refine LWp.ret ?_ | refine LWp.skip ?_ | refine LOps.val (LVal.call rfl rfl (by rw [hP]; exact Try.func12) rfl (by decide) (c2)) rfl rfl rfl ?_ | refine LOps.val (LVal.call rfl rfl (by rw [hP]; exact Try.func13) rfl (by decide) (c3)) rfl rfl rfl ?_ | refine LOps.val (LVal.call rfl rfl (by rw [hP]; exact Try.func29) rfl (by decide) (c4)) rfl rfl rfl ?_ | refine LOps.val (LVal.call rfl rfl (by rw [hP]; exact Try.func28) rfl (by decide) (c5)) rfl rfl rfl ?_ | refine LOps.whenC (LVal.call rfl rfl (by rw [hP]; exact Try.func12) rfl (by decide) (c2)) ?_ | refine LOps.whenC (LVal.call rfl rfl (by rw [hP]; exact Try.func13) rfl (by decide) (c3)) ?_ | refine LOps.whenC (LVal.call rfl rfl (by rw [hP]; exact Try.func29) rfl (by decide) (c4)) ?_ | refine LOps.whenC (LVal.call rfl rfl (by rw [hP]; exact Try.func28) rfl (by decide) (c5)) ?_ | refine LOps.valA ?_ | refine LOps.outA ?_ | refine LOps.whenA ?_ | refine LOps.pickA ?_ | refine LOps.storeA ?_)
  rotate_left
  · repeat (first | refine LOps.nil ?_ | refine andThen_normal ?_ | refine andThen_exit ?_ | refine andThen_ret ?_ | refine inBlock_normal ?_ | refine inBlock_ret ?_ | refine inBlock_here ?_ | refine inBlock_out rfl ?_ | refine LWp.seq ?_ | refine LWp.region ?_ | refine LWp.block ?_ | refine LWp.exit ?_ | refine LWp.ret ?_ | refine LWp.skip ?_ | refine LOps.valA ?_ | refine LOps.outA ?_ | refine LOps.whenA ?_ | refine LOps.pickA ?_ | refine LOps.storeA ?_)
    refine LWp.cond rfl (fun hh => ?_) (fun hh => ?_)
    · have hh : (!((rightN n && coversN n key) && n.leaf)) = true := hh
      have ht : takesN n key = false := by rw [htk] at hh; simpa using hh
      have e := put_no (v := value) ht
      repeat (first | refine LOps.nil ?_ | refine andThen_normal ?_ | refine andThen_exit ?_ | refine andThen_ret ?_ | refine inBlock_normal ?_ | refine inBlock_ret ?_ | refine inBlock_here ?_ | refine inBlock_out rfl ?_ | refine LWp.seq ?_ | refine LWp.region ?_ | refine LWp.block ?_ | refine LWp.exit ?_ | refine LWp.ret ?_ | refine LWp.skip ?_ | refine LOps.valA ?_ | refine LOps.outA ?_ | refine LOps.whenA ?_ | refine LOps.pickA ?_ | refine LOps.storeA ?_)
      exact ⟨rfl, _, holds.over ⟨rfl, rfl, rfl, rfl, rfl, rfl, by rw [e]; rfl, by rw [e]; rfl, trivial⟩⟩
    · have hh : (!((rightN n && coversN n key) && n.leaf)) = false := hh
      have ht : takesN n key = true := by rw [htk] at hh; simpa using hh
      have e := was_is ht value
      repeat (first | refine LOps.nil ?_ | refine andThen_normal ?_ | refine andThen_exit ?_ | refine andThen_ret ?_ | refine inBlock_normal ?_ | refine inBlock_ret ?_ | refine inBlock_here ?_ | refine inBlock_out rfl ?_ | refine LWp.seq ?_ | refine LWp.region ?_ | refine LWp.block ?_ | refine LWp.exit ?_ | refine LWp.ret ?_ | refine LWp.skip ?_ | refine LOps.valA ?_ | refine LOps.outA ?_ | refine LOps.whenA ?_ | refine LOps.pickA ?_ | refine LOps.storeA ?_)
      exact ⟨rfl, _, holds.over ⟨rfl, rfl, rfl, rfl, rfl, rfl, by rw [← e.1]; rfl, by rw [← e.2]; rfl, trivial⟩⟩
  rintro _ S8 ⟨hS8, T8, rfl⟩
  replace hS8 := hS8.symm
  subst hS8
  rw [htk]

  repeat (first | refine LOps.valH (LVal.load hD rfl rfl k9 rfl rfl) ?_ | refine LOps.nil ?_ | refine andThen_normal ?_ | refine andThen_exit ?_ | refine andThen_ret ?_ | refine inBlock_normal ?_ | refine inBlock_ret ?_ | refine inBlock_here ?_ | refine inBlock_out rfl ?_ | refine LWp.seq ?_ | refine LWp.region ?_ | refine LWp.block ?_ | refine LWp.exit ?_ | refine LWp.ret ?_ | refine LWp.skip ?_ | refine LOps.valA ?_ | refine LOps.outA ?_ | refine LOps.whenA ?_ | refine LOps.pickA ?_)
  refine LOps.do (LDo.callF (put_L hP n hn key value _) (by rw [hP]; exact Try.func26)) rfl rfl rfl ?_
  rintro _ S13 ⟨XA, YA, ZA, rfl, le1, R0⟩
  have offA4 := R0.offOld k4
  have offA9 := R0.offOld k9
  have RA := R0.base hle
  replace hle := hle.trans le1
  replace k4 := le1.box _ _ k4
  replace k7 := le1.box _ _ k7
  replace k9 := le1.box _ _ k9
  clear R0 le1
  repeat (first | refine LOps.nil ?_ | refine andThen_normal ?_ | refine andThen_exit ?_ | refine andThen_ret ?_ | refine inBlock_normal ?_ | refine inBlock_ret ?_ | refine inBlock_here ?_ | refine inBlock_out rfl ?_ | refine LWp.seq ?_ | refine LWp.region ?_ | refine LWp.block ?_ | refine LWp.exit ?_ | refine LWp.ret ?_ | refine LWp.skip ?_ | refine LOps.valA ?_ | refine LOps.outA ?_ | refine LOps.whenA ?_ | refine LOps.pickA ?_)
  refine LOps.do (LDo.alloc hD rfl rfl rfl) rfl rfl rfl ?_
  rintro _ _ ⟨b13, hb13, rfl, rfl⟩
  have s13 := hle.none hb13
  have n4_13 := fresh_ne hb13 k4
  have n7_13 := fresh_ne hb13 k7
  have n9_13 := fresh_ne hb13 k9
  have offA13 := RA.offNew hb13.box
  repeat (first | refine LOps.nil ?_ | refine andThen_normal ?_ | refine andThen_exit ?_ | refine andThen_ret ?_ | refine inBlock_normal ?_ | refine inBlock_ret ?_ | refine inBlock_here ?_ | refine inBlock_out rfl ?_ | refine LWp.seq ?_ | refine LWp.region ?_ | refine LWp.block ?_ | refine LWp.exit ?_ | refine LWp.ret ?_ | refine LWp.skip ?_ | refine LOps.valA ?_ | refine LOps.outA ?_ | refine LOps.whenA ?_ | refine LOps.pickA ?_)
  refine LOps.storeA (b := b13) (off := 0) (cs := lzero ti28) (l := ndX ((putN n key value).1) XA YA ZA) ?_
  refine LOps.gen (fun S' => S.le S' ∧ S'.box b4 = some (ndL n) ∧ S'.box b7 = some (hdL kid) ∧ S'.box b9 = some (ndL n) ∧ S'.box b13 = some (ndX ((putN n key value).1) XA YA ZA) ∧ Raw S S' ((putN n key value).1) XA YA ZA) ⟨(hle.newBox hb13 _).setBox s13 _, (box_set_ne _ _ n4_13).trans ((box_new_ne _ _ n4_13).trans k4), (box_set_ne _ _ n7_13).trans ((box_new_ne _ _ n7_13).trans k7), (box_set_ne _ _ n9_13).trans ((box_new_ne _ _ n9_13).trans k9), box_set _ _ _, (RA.le (.newBox (.refl _) hb13 _)).set offA13 _⟩ ?_
  clear hle hb13 k4 k7 k9 RA
  rintro Ss ⟨hle, k4, k7, k9, k13, RA⟩
  repeat (first | refine LOps.nil ?_ | refine andThen_normal ?_ | refine andThen_exit ?_ | refine andThen_ret ?_ | refine inBlock_normal ?_ | refine inBlock_ret ?_ | refine inBlock_here ?_ | refine inBlock_out rfl ?_ | refine LWp.seq ?_ | refine LWp.region ?_ | refine LWp.block ?_ | refine LWp.exit ?_ | refine LWp.ret ?_ | refine LWp.skip ?_ | refine LOps.valA ?_ | refine LOps.outA ?_ | refine LOps.whenA ?_ | refine LOps.pickA ?_ | refine LOps.storeA ?_)
  repeat (first | refine LOps.valH (LVal.load hD rfl rfl k9 rfl rfl) ?_ | refine LOps.nil ?_ | refine andThen_normal ?_ | refine andThen_exit ?_ | refine andThen_ret ?_ | refine inBlock_normal ?_ | refine inBlock_ret ?_ | refine inBlock_here ?_ | refine inBlock_out rfl ?_ | refine LWp.seq ?_ | refine LWp.region ?_ | refine LWp.block ?_ | refine LWp.exit ?_ | refine LWp.ret ?_ | refine LWp.skip ?_ | refine LOps.valA ?_ | refine LOps.outA ?_ | refine LOps.whenA ?_ | refine LOps.pickA ?_)
  refine LOps.do (LDo.callF (delete_L hP n hn key _) (by rw [hP]; exact Try.func27)) rfl rfl rfl ?_
  rintro _ S16 ⟨XB, YB, ZB, rfl, le1, R0⟩
  have offB4 := R0.offOld k4
  have offB9 := R0.offOld k9
  have apAB := RA.apt R0
  have RB := R0.base hle
  replace hle := hle.trans le1
  replace k4 := le1.box _ _ k4
  replace k7 := le1.box _ _ k7
  replace k9 := le1.box _ _ k9
  replace RA := RA.le le1
  replace k13 := le1.box _ _ k13
  clear R0 le1
  repeat (first | refine LOps.nil ?_ | refine andThen_normal ?_ | refine andThen_exit ?_ | refine andThen_ret ?_ | refine inBlock_normal ?_ | refine inBlock_ret ?_ | refine inBlock_here ?_ | refine inBlock_out rfl ?_ | refine LWp.seq ?_ | refine LWp.region ?_ | refine LWp.block ?_ | refine LWp.exit ?_ | refine LWp.ret ?_ | refine LWp.skip ?_ | refine LOps.valA ?_ | refine LOps.outA ?_ | refine LOps.whenA ?_ | refine LOps.pickA ?_)
  refine LOps.do (LDo.alloc hD rfl rfl rfl) rfl rfl rfl ?_
  rintro _ _ ⟨b16, hb16, rfl, rfl⟩
  have s16 := hle.none hb16
  have n4_16 := fresh_ne hb16 k4
  have n7_16 := fresh_ne hb16 k7
  have n9_16 := fresh_ne hb16 k9
  have n13_16 := fresh_ne hb16 k13
  have offA16 := RA.offNew hb16.box
  have offB16 := RB.offNew hb16.box
  repeat (first | refine LOps.nil ?_ | refine andThen_normal ?_ | refine andThen_exit ?_ | refine andThen_ret ?_ | refine inBlock_normal ?_ | refine inBlock_ret ?_ | refine inBlock_here ?_ | refine inBlock_out rfl ?_ | refine LWp.seq ?_ | refine LWp.region ?_ | refine LWp.block ?_ | refine LWp.exit ?_ | refine LWp.ret ?_ | refine LWp.skip ?_ | refine LOps.valA ?_ | refine LOps.outA ?_ | refine LOps.whenA ?_ | refine LOps.pickA ?_)
  refine LOps.storeA (b := b16) (off := 0) (cs := lzero ti28) (l := ndX ((delN n key).1) XB YB ZB) ?_
  refine LOps.gen (fun S' => S.le S' ∧ S'.box b4 = some (ndL n) ∧ S'.box b7 = some (hdL kid) ∧ S'.box b9 = some (ndL n) ∧ S'.box b13 = some (ndX ((putN n key value).1) XA YA ZA) ∧ S'.box b16 = some (ndX ((delN n key).1) XB YB ZB) ∧ Raw S S' ((putN n key value).1) XA YA ZA ∧ Raw S S' ((delN n key).1) XB YB ZB) ⟨(hle.newBox hb16 _).setBox s16 _, (box_set_ne _ _ n4_16).trans ((box_new_ne _ _ n4_16).trans k4), (box_set_ne _ _ n7_16).trans ((box_new_ne _ _ n7_16).trans k7), (box_set_ne _ _ n9_16).trans ((box_new_ne _ _ n9_16).trans k9), (box_set_ne _ _ n13_16).trans ((box_new_ne _ _ n13_16).trans k13), box_set _ _ _, (RA.le (.newBox (.refl _) hb16 _)).set offA16 _, (RB.le (.newBox (.refl _) hb16 _)).set offB16 _⟩ ?_
  clear hle hb16 k4 k7 k9 k13 RA RB
  rintro Ss ⟨hle, k4, k7, k9, k13, k16, RA, RB⟩
  repeat (first | refine LOps.nil ?_ | refine andThen_normal ?_ | refine andThen_exit ?_ | refine andThen_ret ?_ | refine inBlock_normal ?_ | refine inBlock_ret ?_ | refine inBlock_here ?_ | refine inBlock_out rfl ?_ | refine LWp.seq ?_ | refine LWp.region ?_ | refine LWp.block ?_ | refine LWp.exit ?_ | refine LWp.ret ?_ | refine LWp.skip ?_ | refine LOps.valA ?_ | refine LOps.outA ?_ | refine LOps.whenA ?_ | refine LOps.pickA ?_ | refine LOps.storeA ?_)
  repeat (first | refine LOps.valH (LVal.load hD rfl rfl k9 rfl rfl) ?_ | refine LOps.valH (LVal.load hD rfl rfl k7 rfl rfl) ?_ | refine LOps.nil ?_ | refine andThen_normal ?_ | refine andThen_exit ?_ | refine andThen_ret ?_ | refine inBlock_normal ?_ | refine inBlock_ret ?_ | refine inBlock_here ?_ | refine inBlock_out rfl ?_ | refine LWp.seq ?_ | refine LWp.region ?_ | refine LWp.block ?_ | refine LWp.exit ?_ | refine LWp.ret ?_ | refine LWp.skip ?_ | refine LOps.valA ?_ | refine LOps.outA ?_ | refine LOps.whenA ?_ | refine LOps.pickA ?_)
  refine LOps.do (LDo.callF (add_L hP n hn key kid _) (by rw [hP]; exact Try.func21)) rfl rfl rfl ?_
  rintro _ S19 ⟨XC, YC, ZC, rfl, le1, R0⟩
  have offC4 := R0.offOld k4
  have offC9 := R0.offOld k9
  have apAC := RA.apt R0
  have apBC := RB.apt R0
  have RC := R0.base hle
  replace hle := hle.trans le1
  replace k4 := le1.box _ _ k4
  replace k7 := le1.box _ _ k7
  replace k9 := le1.box _ _ k9
  replace RA := RA.le le1
  replace k13 := le1.box _ _ k13
  replace RB := RB.le le1
  replace k16 := le1.box _ _ k16
  clear R0 le1
  repeat (first | refine LOps.nil ?_ | refine andThen_normal ?_ | refine andThen_exit ?_ | refine andThen_ret ?_ | refine inBlock_normal ?_ | refine inBlock_ret ?_ | refine inBlock_here ?_ | refine inBlock_out rfl ?_ | refine LWp.seq ?_ | refine LWp.region ?_ | refine LWp.block ?_ | refine LWp.exit ?_ | refine LWp.ret ?_ | refine LWp.skip ?_ | refine LOps.valA ?_ | refine LOps.outA ?_ | refine LOps.whenA ?_ | refine LOps.pickA ?_)
  refine LOps.do (LDo.alloc hD rfl rfl rfl) rfl rfl rfl ?_
  rintro _ _ ⟨b19, hb19, rfl, rfl⟩
  have s19 := hle.none hb19
  have n4_19 := fresh_ne hb19 k4
  have n7_19 := fresh_ne hb19 k7
  have n9_19 := fresh_ne hb19 k9
  have n13_19 := fresh_ne hb19 k13
  have n16_19 := fresh_ne hb19 k16
  have offA19 := RA.offNew hb19.box
  have offB19 := RB.offNew hb19.box
  have offC19 := RC.offNew hb19.box
  repeat (first | refine LOps.nil ?_ | refine andThen_normal ?_ | refine andThen_exit ?_ | refine andThen_ret ?_ | refine inBlock_normal ?_ | refine inBlock_ret ?_ | refine inBlock_here ?_ | refine inBlock_out rfl ?_ | refine LWp.seq ?_ | refine LWp.region ?_ | refine LWp.block ?_ | refine LWp.exit ?_ | refine LWp.ret ?_ | refine LWp.skip ?_ | refine LOps.valA ?_ | refine LOps.outA ?_ | refine LOps.whenA ?_ | refine LOps.pickA ?_)
  refine LOps.storeA (b := b19) (off := 0) (cs := lzero ti28) (l := ndX (addN n key kid) XC YC ZC) ?_
  refine LOps.gen (fun S' => S.le S' ∧ S'.box b4 = some (ndL n) ∧ S'.box b7 = some (hdL kid) ∧ S'.box b9 = some (ndL n) ∧ S'.box b13 = some (ndX ((putN n key value).1) XA YA ZA) ∧ S'.box b16 = some (ndX ((delN n key).1) XB YB ZB) ∧ S'.box b19 = some (ndX (addN n key kid) XC YC ZC) ∧ Raw S S' ((putN n key value).1) XA YA ZA ∧ Raw S S' ((delN n key).1) XB YB ZB ∧ Raw S S' (addN n key kid) XC YC ZC) ⟨(hle.newBox hb19 _).setBox s19 _, (box_set_ne _ _ n4_19).trans ((box_new_ne _ _ n4_19).trans k4), (box_set_ne _ _ n7_19).trans ((box_new_ne _ _ n7_19).trans k7), (box_set_ne _ _ n9_19).trans ((box_new_ne _ _ n9_19).trans k9), (box_set_ne _ _ n13_19).trans ((box_new_ne _ _ n13_19).trans k13), (box_set_ne _ _ n16_19).trans ((box_new_ne _ _ n16_19).trans k16), box_set _ _ _, (RA.le (.newBox (.refl _) hb19 _)).set offA19 _, (RB.le (.newBox (.refl _) hb19 _)).set offB19 _, (RC.le (.newBox (.refl _) hb19 _)).set offC19 _⟩ ?_
  clear hle hb19 k4 k7 k9 k13 k16 RA RB RC
  rintro Ss ⟨hle, k4, k7, k9, k13, k16, k19, RA, RB, RC⟩
  repeat (first | refine LOps.nil ?_ | refine andThen_normal ?_ | refine andThen_exit ?_ | refine andThen_ret ?_ | refine inBlock_normal ?_ | refine inBlock_ret ?_ | refine inBlock_here ?_ | refine inBlock_out rfl ?_ | refine LWp.seq ?_ | refine LWp.region ?_ | refine LWp.block ?_ | refine LWp.exit ?_ | refine LWp.ret ?_ | refine LWp.skip ?_ | refine LOps.valA ?_ | refine LOps.outA ?_ | refine LOps.whenA ?_ | refine LOps.pickA ?_ | refine LOps.storeA ?_)
  refine LWp.cond rfl (fun hx => ?_) (fun hx => ?_)
  · exfalso
    have hx : (((!decide ((putN n key value).2.1 = (putN n key value).2.1) || false) || !decide ((delN n key).2.1 = (putN n key value).2.1)) || !((delN n key).2.2 == (putN n key value).2.2)) = true := hx
    rw [hsame] at hx
    simp at hx
  clear hx
  have hwant := fun h => wantA_is (n := n) (k := key) h value
  have hnoA : takesN n key = false → (putN n key value).1 = n ∧ (delN n key).1 = n := fun h => by rw [put_no h, del_no h]; exact ⟨rfl, rfl⟩
  refine LWp.slots [(1, .one (sv key)), (2, .one (sv value)), (4, ptr b4), (7, ptr b7), (9, ptr b9), (10, .one (bv (takesN n key))), (13, ptr b13), (16, ptr b16), (19, ptr b19)] ⟨rfl, rfl, rfl, rfl, rfl, rfl, rfl, rfl, rfl, trivial⟩ fun T9 => ?_
  clear htk
  generalize (putN n key value).1 = A at *
  generalize (delN n key).1 = B at *
  generalize hC : addN n key kid = C at *
  repeat (first | refine LOps.nil ?_ | refine andThen_normal ?_ | refine andThen_exit ?_ | refine andThen_ret ?_ | refine inBlock_normal ?_ | refine inBlock_ret ?_ | refine inBlock_here ?_ | refine inBlock_out rfl ?_ | refine LWp.seq ?_ | refine LWp.region ?_ | refine LWp.block ?_ | refine LWp.exit ?_ | refine LWp.ret ?_ | refine LWp.skip ?_ | refine LOps.valA ?_ | refine LOps.outA ?_ | refine LOps.whenA ?_ | refine LOps.pickA ?_ | refine LOps.storeA ?_)
  refine LWp.join (fun T' S' => ∃ (b20 b21 b22 : Nat) (T'' : Nat → TV), New3 Ss S' b20 b21 b22 (ndL n) ∧ T' = over T'' [(1, .one (sv key)), (2, .one (sv value)), (4, ptr b4), (7, ptr b7), (9, ptr b9), (10, .one (bv (takesN n key))), (13, ptr b13), (16, ptr b16), (19, ptr b19), (20, ptr b20), (21, ptr b21), (22, ptr b22)]) ?_ ?_
  · refine LWp.drawF (fun q b => (q = 1 ∨ q = 2) ∧ Ss.box b = none) [0, 1, 2, 3, 4, 5, 6, 7, 8] (by rw [hP]; rfl) rfl ?_
    repeat (first | refine LRl.val (fun _ hS => LVal.load hD rfl rfl (hS.box _ _ k4 (fun hx => by have h2 : Ss.box b4 = none := hx.2; rw [k4] at h2; cases h2)) rfl rfl) rfl rfl rfl ?_ | refine LRl.nil ?_ | refine LRl.valA ?_ | refine LRl.outA ?_ | refine LRl.whenA ?_ | refine LRl.pickA ?_)
    refine LRl.alts [[0, 1, 2, 3, 4, 5, 6, 7, 8], [0, 1, 2, 4, 3, 5, 6, 7, 8], [0, 1, 2, 5, 3, 4, 6, 7, 8]] (fun _ r S' => ∃ b, Ss.fresh b ∧ r = ptr b ∧ S' = Ss.newBox b (lzero ti28)) (fun o2 => getO o2 3 + 17) rfl (fun o2 ho o he => ?_) (fun o2 ho r S' h q hq => ?_) (fun o2 ho r S' h => ?_)
    · simp only [List.mem_cons, List.not_mem_nil, or_false] at ho
      rcases ho with rfl | rfl | rfl <;> (obtain rfl := Option.some.inj (he : some _ = some o); exact ⟨LDo.alloc hD rfl rfl rfl, rfl, rfl, rfl⟩)
    · obtain ⟨b, hb, _, rfl⟩ := h
      exact .newBox hb _
    obtain ⟨bx, hbx, rfl, rfl⟩ := h
    simp only [List.mem_cons, List.not_mem_nil, or_false] at ho
    rcases ho with rfl | rfl | rfl
    · refine LRl.alt [0, 1, 2, 3, 5, 4, 6, 7, 8] rfl (LDo.alloc hD rfl rfl rfl) (LDo.alloc hD rfl rfl rfl) rfl rfl rfl rfl rfl rfl (by rintro _ _ ⟨b, hb, _, rfl⟩; exact fun _ _ => .newBox hb _) (by rintro _ _ ⟨b, hb, _, rfl⟩; exact fun _ _ => .newBox hb _) ?_ ?_
      · rintro _ _ ⟨by', hby, rfl, rfl⟩
        refine LRl.actA (LDo.alloc hD rfl rfl rfl).toAct rfl rfl rfl rfl (by rintro _ _ ⟨b, hb, rfl, rfl⟩ q _; exact .inl (.newBox hb _)) ?_
        rintro _ _ ⟨bz, hbz, rfl, rfl⟩
        obtain ⟨fx, fy, fz, dxy, dxz, dyz, hle3⟩ := fresh3 hbx hby hbz
        obtain ⟨l3, kx, ky, kz⟩ := hle3 (lzero ti28)
        refine LRl.actA0 (LDo.store hD rfl rfl kx rfl rfl rfl rfl).toAct rfl rfl rfl (by
          rintro _ _ ⟨rfl, rfl⟩ q hq
          rcases (by omega : q = 0 ∨ q = 1 ∨ q = 2 ∨ q = 3 ∨ q = 4 ∨ q = 5) with h | h | h | h | h | h <;> subst h <;> first | exact .inr rfl | exact .inl (LS.leX.setBox ⟨by omega, fx⟩ _)) ?_
        rintro _ _ ⟨rfl, rfl⟩
        refine LRl.actA0 (LDo.store hD rfl rfl ((box_set_ne _ _ dxy.symm).trans ky) rfl rfl rfl rfl).toAct rfl rfl rfl (by
          rintro _ _ ⟨rfl, rfl⟩ q hq
          rcases (by omega : q = 0 ∨ q = 1 ∨ q = 2 ∨ q = 3 ∨ q = 4 ∨ q = 5 ∨ q = 6) with h | h | h | h | h | h | h <;> subst h <;> first | exact .inr rfl | exact .inl (LS.leX.setBox ⟨by omega, fy⟩ _)) ?_
        rintro _ _ ⟨rfl, rfl⟩
        refine LRl.actA0 (LDo.store hD rfl rfl ((box_set_ne _ _ dyz.symm).trans ((box_set_ne _ _ dxz.symm).trans kz)) rfl rfl rfl rfl).toAct rfl rfl rfl (by
          rintro _ _ ⟨rfl, rfl⟩ q hq
          rcases (by omega : q = 0 ∨ q = 1 ∨ q = 2 ∨ q = 3 ∨ q = 4 ∨ q = 5 ∨ q = 6 ∨ q = 7) with h | h | h | h | h | h | h | h <;> subst h <;> first | exact .inr rfl | exact .inl (LS.leX.setBox ⟨by omega, fz⟩ _)) ?_
        rintro _ _ ⟨rfl, rfl⟩
        refine LRl.nil ?_
        exact ⟨bx, by', bz, _, new3_of l3 fx fy fz dxy dxz dyz, holds.over ⟨rfl, rfl, rfl, rfl, rfl, rfl, rfl, rfl, rfl, rfl, rfl, rfl, trivial⟩⟩
      · rintro _ _ ⟨by', hby, rfl, rfl⟩
        refine LRl.actA (LDo.alloc hD rfl rfl rfl).toAct rfl rfl rfl rfl (by rintro _ _ ⟨b, hb, rfl, rfl⟩ q _; exact .inl (.newBox hb _)) ?_
        rintro _ _ ⟨bz, hbz, rfl, rfl⟩
        obtain ⟨fx, fy, fz, dxy, dxz, dyz, hle3⟩ := fresh3 hbx hby hbz
        obtain ⟨l3, kx, ky, kz⟩ := hle3 (lzero ti28)
        refine LRl.actA0 (LDo.store hD rfl rfl kx rfl rfl rfl rfl).toAct rfl rfl rfl (by
          rintro _ _ ⟨rfl, rfl⟩ q hq
          rcases (by omega : q = 0 ∨ q = 1 ∨ q = 2 ∨ q = 3 ∨ q = 4 ∨ q = 5) with h | h | h | h | h | h <;> subst h <;> first | exact .inr rfl | exact .inl (LS.leX.setBox ⟨by omega, fx⟩ _)) ?_
        rintro _ _ ⟨rfl, rfl⟩
        refine LRl.actA0 (LDo.store hD rfl rfl ((box_set_ne _ _ dxz.symm).trans kz) rfl rfl rfl rfl).toAct rfl rfl rfl (by
          rintro _ _ ⟨rfl, rfl⟩ q hq
          rcases (by omega : q = 0 ∨ q = 1 ∨ q = 2 ∨ q = 3 ∨ q = 4 ∨ q = 5 ∨ q = 6) with h | h | h | h | h | h | h <;> subst h <;> first | exact .inr rfl | exact .inl (LS.leX.setBox ⟨by omega, fz⟩ _)) ?_
        rintro _ _ ⟨rfl, rfl⟩
        refine LRl.actA0 (LDo.store hD rfl rfl ((box_set_ne _ _ dyz).trans ((box_set_ne _ _ dxy.symm).trans ky)) rfl rfl rfl rfl).toAct rfl rfl rfl (by
          rintro _ _ ⟨rfl, rfl⟩ q hq
          rcases (by omega : q = 0 ∨ q = 1 ∨ q = 2 ∨ q = 3 ∨ q = 4 ∨ q = 5 ∨ q = 6 ∨ q = 7) with h | h | h | h | h | h | h | h <;> subst h <;> first | exact .inr rfl | exact .inl (LS.leX.setBox ⟨by omega, fy⟩ _)) ?_
        rintro _ _ ⟨rfl, rfl⟩
        refine LRl.nil ?_
        exact ⟨bx, bz, by', _, new3_of l3 fx fz fy dxz dxy dyz.symm, holds.over ⟨rfl, rfl, rfl, rfl, rfl, rfl, rfl, rfl, rfl, rfl, rfl, rfl, trivial⟩⟩
    · refine LRl.alt [0, 1, 2, 4, 5, 3, 6, 7, 8] rfl (LDo.alloc hD rfl rfl rfl) (LDo.alloc hD rfl rfl rfl) rfl rfl rfl rfl rfl rfl (by rintro _ _ ⟨b, hb, _, rfl⟩; exact fun _ _ => .newBox hb _) (by rintro _ _ ⟨b, hb, _, rfl⟩; exact fun _ _ => .newBox hb _) ?_ ?_
      · rintro _ _ ⟨by', hby, rfl, rfl⟩
        refine LRl.actA (LDo.alloc hD rfl rfl rfl).toAct rfl rfl rfl rfl (by rintro _ _ ⟨b, hb, rfl, rfl⟩ q _; exact .inl (.newBox hb _)) ?_
        rintro _ _ ⟨bz, hbz, rfl, rfl⟩
        obtain ⟨fx, fy, fz, dxy, dxz, dyz, hle3⟩ := fresh3 hbx hby hbz
        obtain ⟨l3, kx, ky, kz⟩ := hle3 (lzero ti28)
        refine LRl.actA0 (LDo.store hD rfl rfl ky rfl rfl rfl rfl).toAct rfl rfl rfl (by
          rintro _ _ ⟨rfl, rfl⟩ q hq
          rcases (by omega : q = 0 ∨ q = 1 ∨ q = 2 ∨ q = 3 ∨ q = 4 ∨ q = 5) with h | h | h | h | h | h <;> subst h <;> first | exact .inr rfl | exact .inl (LS.leX.setBox ⟨by omega, fy⟩ _)) ?_
        rintro _ _ ⟨rfl, rfl⟩
        refine LRl.actA0 (LDo.store hD rfl rfl ((box_set_ne _ _ dxy).trans kx) rfl rfl rfl rfl).toAct rfl rfl rfl (by
          rintro _ _ ⟨rfl, rfl⟩ q hq
          rcases (by omega : q = 0 ∨ q = 1 ∨ q = 2 ∨ q = 3 ∨ q = 4 ∨ q = 5 ∨ q = 6) with h | h | h | h | h | h | h <;> subst h <;> first | exact .inr rfl | exact .inl (LS.leX.setBox ⟨by omega, fx⟩ _)) ?_
        rintro _ _ ⟨rfl, rfl⟩
        refine LRl.actA0 (LDo.store hD rfl rfl ((box_set_ne _ _ dxz.symm).trans ((box_set_ne _ _ dyz.symm).trans kz)) rfl rfl rfl rfl).toAct rfl rfl rfl (by
          rintro _ _ ⟨rfl, rfl⟩ q hq
          rcases (by omega : q = 0 ∨ q = 1 ∨ q = 2 ∨ q = 3 ∨ q = 4 ∨ q = 5 ∨ q = 6 ∨ q = 7) with h | h | h | h | h | h | h | h <;> subst h <;> first | exact .inr rfl | exact .inl (LS.leX.setBox ⟨by omega, fz⟩ _)) ?_
        rintro _ _ ⟨rfl, rfl⟩
        refine LRl.nil ?_
        exact ⟨by', bx, bz, _, new3_of l3 fy fx fz dxy.symm dyz dxz, holds.over ⟨rfl, rfl, rfl, rfl, rfl, rfl, rfl, rfl, rfl, rfl, rfl, rfl, trivial⟩⟩
      · rintro _ _ ⟨by', hby, rfl, rfl⟩
        refine LRl.actA (LDo.alloc hD rfl rfl rfl).toAct rfl rfl rfl rfl (by rintro _ _ ⟨b, hb, rfl, rfl⟩ q _; exact .inl (.newBox hb _)) ?_
        rintro _ _ ⟨bz, hbz, rfl, rfl⟩
        obtain ⟨fx, fy, fz, dxy, dxz, dyz, hle3⟩ := fresh3 hbx hby hbz
        obtain ⟨l3, kx, ky, kz⟩ := hle3 (lzero ti28)
        refine LRl.actA0 (LDo.store hD rfl rfl kz rfl rfl rfl rfl).toAct rfl rfl rfl (by
          rintro _ _ ⟨rfl, rfl⟩ q hq
          rcases (by omega : q = 0 ∨ q = 1 ∨ q = 2 ∨ q = 3 ∨ q = 4 ∨ q = 5) with h | h | h | h | h | h <;> subst h <;> first | exact .inr rfl | exact .inl (LS.leX.setBox ⟨by omega, fz⟩ _)) ?_
        rintro _ _ ⟨rfl, rfl⟩
        refine LRl.actA0 (LDo.store hD rfl rfl ((box_set_ne _ _ dxz).trans kx) rfl rfl rfl rfl).toAct rfl rfl rfl (by
          rintro _ _ ⟨rfl, rfl⟩ q hq
          rcases (by omega : q = 0 ∨ q = 1 ∨ q = 2 ∨ q = 3 ∨ q = 4 ∨ q = 5 ∨ q = 6) with h | h | h | h | h | h | h <;> subst h <;> first | exact .inr rfl | exact .inl (LS.leX.setBox ⟨by omega, fx⟩ _)) ?_
        rintro _ _ ⟨rfl, rfl⟩
        refine LRl.actA0 (LDo.store hD rfl rfl ((box_set_ne _ _ dxy.symm).trans ((box_set_ne _ _ dyz).trans ky)) rfl rfl rfl rfl).toAct rfl rfl rfl (by
          rintro _ _ ⟨rfl, rfl⟩ q hq
          rcases (by omega : q = 0 ∨ q = 1 ∨ q = 2 ∨ q = 3 ∨ q = 4 ∨ q = 5 ∨ q = 6 ∨ q = 7) with h | h | h | h | h | h | h | h <;> subst h <;> first | exact .inr rfl | exact .inl (LS.leX.setBox ⟨by omega, fy⟩ _)) ?_
        rintro _ _ ⟨rfl, rfl⟩
        refine LRl.nil ?_
        exact ⟨bz, bx, by', _, new3_of l3 fz fx fy dxz.symm dyz.symm dxy, holds.over ⟨rfl, rfl, rfl, rfl, rfl, rfl, rfl, rfl, rfl, rfl, rfl, rfl, trivial⟩⟩
    · refine LRl.alt [0, 1, 2, 5, 4, 3, 6, 7, 8] rfl (LDo.alloc hD rfl rfl rfl) (LDo.alloc hD rfl rfl rfl) rfl rfl rfl rfl rfl rfl (by rintro _ _ ⟨b, hb, _, rfl⟩; exact fun _ _ => .newBox hb _) (by rintro _ _ ⟨b, hb, _, rfl⟩; exact fun _ _ => .newBox hb _) ?_ ?_
      · rintro _ _ ⟨by', hby, rfl, rfl⟩
        refine LRl.actA (LDo.alloc hD rfl rfl rfl).toAct rfl rfl rfl rfl (by rintro _ _ ⟨b, hb, rfl, rfl⟩ q _; exact .inl (.newBox hb _)) ?_
        rintro _ _ ⟨bz, hbz, rfl, rfl⟩
        obtain ⟨fx, fy, fz, dxy, dxz, dyz, hle3⟩ := fresh3 hbx hby hbz
        obtain ⟨l3, kx, ky, kz⟩ := hle3 (lzero ti28)
        refine LRl.actA0 (LDo.store hD rfl rfl ky rfl rfl rfl rfl).toAct rfl rfl rfl (by
          rintro _ _ ⟨rfl, rfl⟩ q hq
          rcases (by omega : q = 0 ∨ q = 1 ∨ q = 2 ∨ q = 3 ∨ q = 4 ∨ q = 5) with h | h | h | h | h | h <;> subst h <;> first | exact .inr rfl | exact .inl (LS.leX.setBox ⟨by omega, fy⟩ _)) ?_
        rintro _ _ ⟨rfl, rfl⟩
        refine LRl.actA0 (LDo.store hD rfl rfl ((box_set_ne _ _ dyz.symm).trans kz) rfl rfl rfl rfl).toAct rfl rfl rfl (by
          rintro _ _ ⟨rfl, rfl⟩ q hq
          rcases (by omega : q = 0 ∨ q = 1 ∨ q = 2 ∨ q = 3 ∨ q = 4 ∨ q = 5 ∨ q = 6) with h | h | h | h | h | h | h <;> subst h <;> first | exact .inr rfl | exact .inl (LS.leX.setBox ⟨by omega, fz⟩ _)) ?_
        rintro _ _ ⟨rfl, rfl⟩
        refine LRl.actA0 (LDo.store hD rfl rfl ((box_set_ne _ _ dxz).trans ((box_set_ne _ _ dxy).trans kx)) rfl rfl rfl rfl).toAct rfl rfl rfl (by
          rintro _ _ ⟨rfl, rfl⟩ q hq
          rcases (by omega : q = 0 ∨ q = 1 ∨ q = 2 ∨ q = 3 ∨ q = 4 ∨ q = 5 ∨ q = 6 ∨ q = 7) with h | h | h | h | h | h | h | h <;> subst h <;> first | exact .inr rfl | exact .inl (LS.leX.setBox ⟨by omega, fx⟩ _)) ?_
        rintro _ _ ⟨rfl, rfl⟩
        refine LRl.nil ?_
        exact ⟨by', bz, bx, _, new3_of l3 fy fz fx dyz dxy.symm dxz.symm, holds.over ⟨rfl, rfl, rfl, rfl, rfl, rfl, rfl, rfl, rfl, rfl, rfl, rfl, trivial⟩⟩
      · rintro _ _ ⟨by', hby, rfl, rfl⟩
        refine LRl.actA (LDo.alloc hD rfl rfl rfl).toAct rfl rfl rfl rfl (by rintro _ _ ⟨b, hb, rfl, rfl⟩ q _; exact .inl (.newBox hb _)) ?_
        rintro _ _ ⟨bz, hbz, rfl, rfl⟩
        obtain ⟨fx, fy, fz, dxy, dxz, dyz, hle3⟩ := fresh3 hbx hby hbz
        obtain ⟨l3, kx, ky, kz⟩ := hle3 (lzero ti28)
        refine LRl.actA0 (LDo.store hD rfl rfl kz rfl rfl rfl rfl).toAct rfl rfl rfl (by
          rintro _ _ ⟨rfl, rfl⟩ q hq
          rcases (by omega : q = 0 ∨ q = 1 ∨ q = 2 ∨ q = 3 ∨ q = 4 ∨ q = 5) with h | h | h | h | h | h <;> subst h <;> first | exact .inr rfl | exact .inl (LS.leX.setBox ⟨by omega, fz⟩ _)) ?_
        rintro _ _ ⟨rfl, rfl⟩
        refine LRl.actA0 (LDo.store hD rfl rfl ((box_set_ne _ _ dyz).trans ky) rfl rfl rfl rfl).toAct rfl rfl rfl (by
          rintro _ _ ⟨rfl, rfl⟩ q hq
          rcases (by omega : q = 0 ∨ q = 1 ∨ q = 2 ∨ q = 3 ∨ q = 4 ∨ q = 5 ∨ q = 6) with h | h | h | h | h | h | h <;> subst h <;> first | exact .inr rfl | exact .inl (LS.leX.setBox ⟨by omega, fy⟩ _)) ?_
        rintro _ _ ⟨rfl, rfl⟩
        refine LRl.actA0 (LDo.store hD rfl rfl ((box_set_ne _ _ dxy).trans ((box_set_ne _ _ dxz).trans kx)) rfl rfl rfl rfl).toAct rfl rfl rfl (by
          rintro _ _ ⟨rfl, rfl⟩ q hq
          rcases (by omega : q = 0 ∨ q = 1 ∨ q = 2 ∨ q = 3 ∨ q = 4 ∨ q = 5 ∨ q = 6 ∨ q = 7) with h | h | h | h | h | h | h | h <;> subst h <;> first | exact .inr rfl | exact .inl (LS.leX.setBox ⟨by omega, fx⟩ _)) ?_
        rintro _ _ ⟨rfl, rfl⟩
        refine LRl.nil ?_
        exact ⟨bz, by', bx, _, new3_of l3 fz fy fx dyz.symm dxz.symm dxy.symm, holds.over ⟨rfl, rfl, rfl, rfl, rfl, rfl, rfl, rfl, rfl, rfl, rfl, rfl, trivial⟩⟩
  rintro _ Sw ⟨b20, b21, b22, T16, nw, rfl⟩
  have offA20 := RA.offNew nw.na
  have offA21 := RA.offNew nw.nb
  have offA22 := RA.offNew nw.nc
  have offB20 := RB.offNew nw.na
  have offB21 := RB.offNew nw.nb
  have offB22 := RB.offNew nw.nc
  have offC20 := RC.offNew nw.na
  have offC21 := RC.offNew nw.nb
  have offC22 := RC.offNew nw.nc
  have n4_20 : b4 ≠ b20 := fun e => by have h2 := nw.na; rw [← e, k4] at h2; cases h2
  have n4_21 : b4 ≠ b21 := fun e => by have h2 := nw.nb; rw [← e, k4] at h2; cases h2
  have n4_22 : b4 ≠ b22 := fun e => by have h2 := nw.nc; rw [← e, k4] at h2; cases h2
  have n7_20 : b7 ≠ b20 := fun e => by have h2 := nw.na; rw [← e, k7] at h2; cases h2
  have n7_21 : b7 ≠ b21 := fun e => by have h2 := nw.nb; rw [← e, k7] at h2; cases h2
  have n7_22 : b7 ≠ b22 := fun e => by have h2 := nw.nc; rw [← e, k7] at h2; cases h2
  have n9_20 : b9 ≠ b20 := fun e => by have h2 := nw.na; rw [← e, k9] at h2; cases h2
  have n9_21 : b9 ≠ b21 := fun e => by have h2 := nw.nb; rw [← e, k9] at h2; cases h2
  have n9_22 : b9 ≠ b22 := fun e => by have h2 := nw.nc; rw [← e, k9] at h2; cases h2
  have n13_20 : b13 ≠ b20 := fun e => by have h2 := nw.na; rw [← e, k13] at h2; cases h2
  have n13_21 : b13 ≠ b21 := fun e => by have h2 := nw.nb; rw [← e, k13] at h2; cases h2
  have n13_22 : b13 ≠ b22 := fun e => by have h2 := nw.nc; rw [← e, k13] at h2; cases h2
  have n16_20 : b16 ≠ b20 := fun e => by have h2 := nw.na; rw [← e, k16] at h2; cases h2
  have n16_21 : b16 ≠ b21 := fun e => by have h2 := nw.nb; rw [← e, k16] at h2; cases h2
  have n16_22 : b16 ≠ b22 := fun e => by have h2 := nw.nc; rw [← e, k16] at h2; cases h2
  have n19_20 : b19 ≠ b20 := fun e => by have h2 := nw.na; rw [← e, k19] at h2; cases h2
  have n19_21 : b19 ≠ b21 := fun e => by have h2 := nw.nb; rw [← e, k19] at h2; cases h2
  have n19_22 : b19 ≠ b22 := fun e => by have h2 := nw.nc; rw [← e, k19] at h2; cases h2
  have hnone : ∀ b, Ss.box b = none → S.box b = none := fun b hb => by
    cases hq : S.box b with
    | none => rfl
    | some cs => rw [hle.box b cs hq] at hb; cases hb
  have s20 := hnone _ nw.na
  have s21 := hnone _ nw.nb
  have s22 := hnone _ nw.nc
  replace hle := hle.trans nw.le
  replace k4 := nw.le.box _ _ k4
  replace k7 := nw.le.box _ _ k7
  replace k9 := nw.le.box _ _ k9
  replace k13 := nw.le.box _ _ k13
  replace k16 := nw.le.box _ _ k16
  replace k19 := nw.le.box _ _ k19
  replace RA := RA.le nw.le
  replace RB := RB.le nw.le
  replace RC := RC.le nw.le
  have k20 := nw.ka
  have k21 := nw.kb
  have k22 := nw.kc
  have d1 := nw.ab
  have d2 := nw.ac
  have d3 := nw.bc
  clear nw hnone
  repeat (first | (refine LWp.seq (LWp.cut 17 (fun T' S' => S.le S' ∧ Sto Sw S' b20 b21 b22 ∧ S'.box b20 = some (ndL A) ∧ S'.box b21 = some (ndL B) ∧ S'.box b22 = some (ndL n) ∧ ∃ (T'' : Nat → TV), T' = over T'' [(1, .one (sv key)), (4, ptr b4), (7, ptr b7), (9, ptr b9), (13, ptr b13), (16, ptr b16), (19, ptr b19), (20, ptr b20), (21, ptr b21), (22, ptr b22)]) rfl ?_ ?_); rotate_left) | refine LOps.nil ?_ | refine andThen_normal ?_ | refine andThen_exit ?_ | refine andThen_ret ?_ | refine inBlock_normal ?_ | refine inBlock_ret ?_ | refine inBlock_here ?_ | refine inBlock_out rfl ?_ | refine LWp.seq ?_ | refine LWp.region ?_ | refine LWp.block ?_ | refine LWp.exit ?_ | refine LWp.ret ?_ | refine LWp.skip ?_ | refine LOps.valA ?_ | refine LOps.outA ?_ | refine LOps.whenA ?_ | refine LOps.pickA ?_ | refine LOps.storeA ?_)
  rotate_left
  · repeat (first | refine LOps.nil ?_ | refine andThen_normal ?_ | refine andThen_exit ?_ | refine andThen_ret ?_ | refine inBlock_normal ?_ | refine inBlock_ret ?_ | refine inBlock_here ?_ | refine inBlock_out rfl ?_ | refine LWp.seq ?_ | refine LWp.region ?_ | refine LWp.block ?_ | refine LWp.exit ?_ | refine LWp.ret ?_ | refine LWp.skip ?_ | refine LOps.valA ?_ | refine LOps.outA ?_ | refine LOps.whenA ?_ | refine LOps.pickA ?_ | refine LOps.storeA ?_)
    refine LWp.cond rfl (fun hh => ?_) (fun hh => ?_)
    · have hh : takesN n key = true := hh
      obtain ⟨wA, wB⟩ := hwant hh
      have hpn3 : (pairsN n).length ≤ 300 := by rw [pairsN_len]; omega
      have hpz : ∀ p ∈ pairsN n, p.key.size ≤ B47 := fun p hp => by
        obtain ⟨l, L, hc⟩ := takes_lf hh
        rw [pairs_lf L] at hp
        exact hz.keys _ (by rw [L.keys]; exact List.mem_map_of_mem hp)
      have c6 := putD_F hP (pairsN n) hpn hpz key value hkz
      have hput : (putD (pairsN n) key value).length ≤ 100000 := by
        obtain ⟨l, L, hc⟩ := takes_lf hh
        rw [pairs_lf L, putD_srt L.srt]
        have := setP_len l key value
        have := L.len
        omega
      have hdel : (dropD (pairsN n) key).length ≤ 100000 := by
        have := List.length_filter_le (fun p : Pr => !decide (p.key = key)) (pairsN n)
        unfold dropD; omega
      have c7 := of_F hP n (putD (pairsN n) key value) hput
      have c8 := del_F hP (pairsN n) hpn key
      have c9 := of_F hP n (dropD (pairsN n) key) hdel
      rw [wA] at c7
      rw [wB] at c9
      repeat (first | refine LOps.nil ?_ | refine andThen_normal ?_ | refine andThen_exit ?_ | refine andThen_ret ?_ | refine inBlock_normal ?_ | refine inBlock_ret ?_ | refine inBlock_here ?_ | refine inBlock_out rfl ?_ | refine LWp.seq ?_ | refine LWp.region ?_ | refine LWp.block ?_ | refine LWp.exit ?_ | refine LWp.ret ?_ | refine LWp.skip ?_ | refine LOps.valA ?_ | refine LOps.outA ?_ | refine LOps.whenA ?_ | refine LOps.pickA ?_ | refine LOps.storeA ?_)
      refine LWp.drawX (fun b => b = b20) [0, 1, 2, 3, 4, 5, 6, 7] (by rw [hP]; rfl) rfl ?_
      repeat (first | refine LRl.valH (LVal.load hD rfl rfl k4 rfl rfl) ?_ (fun _ hS => LVal.load hD rfl rfl (hS.box _ _ k4 (by first | exact id | (intro hx; rcases hx with hx | hx <;> omega) | (intro hx; have hx2 : _ = _ := hx; omega) | (intro hx; exact absurd hx.1 (by decide)))) rfl rfl) | refine LRl.valC (fun _ => (LVal.call rfl rfl (by rw [hP]; exact Try.func29) rfl (by decide) (c4))) ?_ | refine LRl.valC (fun _ => (LVal.call rfl rfl (by rw [hP]; exact Try.func31) rfl (by decide) (c6))) ?_ | refine LRl.valC (fun _ => (LVal.call rfl rfl (by rw [hP]; exact Try.func30) rfl (by decide) (c7))) ?_ | refine LRl.whenC (fun _ => (LVal.call rfl rfl (by rw [hP]; exact Try.func29) rfl (by decide) (c4))) ?_ | refine LRl.whenC (fun _ => (LVal.call rfl rfl (by rw [hP]; exact Try.func31) rfl (by decide) (c6))) ?_ | refine LRl.whenC (fun _ => (LVal.call rfl rfl (by rw [hP]; exact Try.func30) rfl (by decide) (c7))) ?_ | refine LRl.nil ?_ | refine LRl.valA ?_ | refine LRl.outA ?_ | refine LRl.whenA ?_ | refine LRl.pickA ?_)
      refine LRl.actA0 (LDo.store hD rfl rfl (k20) rfl rfl rfl rfl).toAct rfl rfl rfl (by
        rintro _ _ ⟨rfl, rfl⟩ q hq
        rcases (by omega : q = 0 ∨ q = 1 ∨ q = 2 ∨ q = 3 ∨ q = 4 ∨ q = 5 ∨ q = 6) with h | h | h | h | h | h | h <;> subst h <;> first | exact .inr rfl | exact .inl (LS.leX.setBox (by omega) _)) ?_
      rintro _ _ ⟨rfl, rfl⟩
      repeat (first | refine LRl.nil ?_ | refine LRl.valA ?_ | refine LRl.outA ?_ | refine LRl.whenA ?_ | refine LRl.pickA ?_)
      refine LWp.gen (fun S' => S.le S' ∧ S'.box b4 = some (ndL n) ∧ Sto Sw S' b20 b21 b22 ∧ S'.box b20 = some (ndL A) ∧ S'.box b21 = some (ndL n) ∧ S'.box b22 = some (ndL n)) ⟨hle.setBox s20 _, (box_set_ne _ _ n4_20).trans k4, fun d cs hd h1 _ _ => (box_set_ne _ _ h1).trans hd, box_set _ _ _, (box_set_ne _ _ d1.symm).trans k21, (box_set_ne _ _ d2.symm).trans k22⟩ ?_
      rintro Sp ⟨hle, k4, st, k20, k21, k22⟩
      refine LWp.drawX (fun b => b = b21) [0, 1, 2, 3, 4, 5, 6] (by rw [hP]; rfl) rfl ?_
      repeat (first | refine LRl.valH (LVal.load hD rfl rfl k4 rfl rfl) ?_ (fun _ hS => LVal.load hD rfl rfl (hS.box _ _ k4 (by first | exact id | (intro hx; rcases hx with hx | hx <;> omega) | (intro hx; have hx2 : _ = _ := hx; omega) | (intro hx; exact absurd hx.1 (by decide)))) rfl rfl) | refine LRl.valC (fun _ => (LVal.call rfl rfl (by rw [hP]; exact Try.func29) rfl (by decide) (c4))) ?_ | refine LRl.valC (fun _ => (LVal.call rfl rfl (by rw [hP]; exact Try.func32) rfl (by decide) (c8))) ?_ | refine LRl.valC (fun _ => (LVal.call rfl rfl (by rw [hP]; exact Try.func30) rfl (by decide) (c9))) ?_ | refine LRl.whenC (fun _ => (LVal.call rfl rfl (by rw [hP]; exact Try.func29) rfl (by decide) (c4))) ?_ | refine LRl.whenC (fun _ => (LVal.call rfl rfl (by rw [hP]; exact Try.func32) rfl (by decide) (c8))) ?_ | refine LRl.whenC (fun _ => (LVal.call rfl rfl (by rw [hP]; exact Try.func30) rfl (by decide) (c9))) ?_ | refine LRl.nil ?_ | refine LRl.valA ?_ | refine LRl.outA ?_ | refine LRl.whenA ?_ | refine LRl.pickA ?_)
      refine LRl.actA0 (LDo.store hD rfl rfl (k21) rfl rfl rfl rfl).toAct rfl rfl rfl (by
        rintro _ _ ⟨rfl, rfl⟩ q hq
        rcases (by omega : q = 0 ∨ q = 1 ∨ q = 2 ∨ q = 3 ∨ q = 4 ∨ q = 5) with h | h | h | h | h | h <;> subst h <;> first | exact .inr rfl | exact .inl (LS.leX.setBox (by omega) _)) ?_
      rintro _ _ ⟨rfl, rfl⟩
      repeat (first | refine LRl.nil ?_ | refine LRl.valA ?_ | refine LRl.outA ?_ | refine LRl.whenA ?_ | refine LRl.pickA ?_)
      repeat (first | refine LOps.nil ?_ | refine andThen_normal ?_ | refine andThen_exit ?_ | refine andThen_ret ?_ | refine inBlock_normal ?_ | refine inBlock_ret ?_ | refine inBlock_here ?_ | refine inBlock_out rfl ?_ | refine LWp.seq ?_ | refine LWp.region ?_ | refine LWp.block ?_ | refine LWp.exit ?_ | refine LWp.ret ?_ | refine LWp.skip ?_ | refine LOps.valA ?_ | refine LOps.outA ?_ | refine LOps.whenA ?_ | refine LOps.pickA ?_ | refine LOps.storeA ?_)
      exact ⟨hle.setBox s21 _, fun d cs hd h1 h2 h3 => (box_set_ne _ _ h2).trans (st d cs hd h1 h2 h3), (box_set_ne _ _ d1).trans k20, box_set _ _ _, (box_set_ne _ _ d3.symm).trans k22, _, holds.over ⟨rfl, rfl, rfl, rfl, rfl, rfl, rfl, rfl, rfl, rfl, trivial⟩⟩
    · have hh : takesN n key = false := hh
      obtain ⟨e1, e2⟩ := hnoA hh
      repeat (first | refine LOps.nil ?_ | refine andThen_normal ?_ | refine andThen_exit ?_ | refine andThen_ret ?_ | refine inBlock_normal ?_ | refine inBlock_ret ?_ | refine inBlock_here ?_ | refine inBlock_out rfl ?_ | refine LWp.seq ?_ | refine LWp.region ?_ | refine LWp.block ?_ | refine LWp.exit ?_ | refine LWp.ret ?_ | refine LWp.skip ?_ | refine LOps.valA ?_ | refine LOps.outA ?_ | refine LOps.whenA ?_ | refine LOps.pickA ?_ | refine LOps.storeA ?_)
      exact ⟨hle, fun d cs hd _ _ _ => hd, by rw [e1]; exact k20, by rw [e2]; exact k21, k22, _, holds.over ⟨rfl, rfl, rfl, rfl, rfl, rfl, rfl, rfl, rfl, rfl, trivial⟩⟩
  clear hle k20 k21 k22 hwant hnoA c4 c5
  rintro _ Sx ⟨hle, st, k20, k21, k22, T17, rfl⟩
  have q4 := st _ _ k4 n4_20 n4_21 n4_22
  have q7 := st _ _ k7 n7_20 n7_21 n7_22
  have c10 := place_F hP n.keys hn.keys hz.keys key hkz
  repeat (first | refine LOps.valH (LVal.load hD rfl rfl q4 rfl rfl) ?_ | (refine LWp.seq (LWp.cut 21 (fun T' S' => S.le S' ∧ Sto Sw S' b20 b21 b22 ∧ S'.box b20 = some (ndL A) ∧ S'.box b21 = some (ndL B) ∧ (∃ o p, S'.box b22 = some (ndX C (.sl o (C.keys.map sL)) (.sl .sh (C.vals.map sL)) (.sl p (C.kids.map hdL)))) ∧ ∃ (T'' : Nat → TV), T' = over T'' [(4, ptr b4), (9, ptr b9), (13, ptr b13), (16, ptr b16), (19, ptr b19), (20, ptr b20), (21, ptr b21), (22, ptr b22)]) rfl ?_ ?_); rotate_left) | refine LOps.nil ?_ | refine andThen_normal ?_ | refine andThen_exit ?_ | refine andThen_ret ?_ | refine inBlock_normal ?_ | refine inBlock_ret ?_ | refine inBlock_here ?_ | refine inBlock_out rfl ?_ | refine LWp.seq ?_ | refine LWp.region ?_ | refine LWp.block ?_ | refine LWp.exit ?_ | refine LWp.ret ?_ | refine LWp.skip ?_ | refine LOps.val (LVal.call rfl rfl (by rw [hP]; exact Try.func15) rfl (by decide) (c10)) rfl rfl rfl ?_ | refine LOps.whenC (LVal.call rfl rfl (by rw [hP]; exact Try.func15) rfl (by decide) (c10)) ?_ | refine LOps.valA ?_ | refine LOps.outA ?_ | refine LOps.whenA ?_ | refine LOps.pickA ?_ | refine LOps.storeA ?_)
  rotate_left
  · repeat (first | refine LOps.valH (LVal.load hD rfl rfl q4 rfl rfl) ?_ | refine LOps.nil ?_ | refine andThen_normal ?_ | refine andThen_exit ?_ | refine andThen_ret ?_ | refine inBlock_normal ?_ | refine inBlock_ret ?_ | refine inBlock_here ?_ | refine inBlock_out rfl ?_ | refine LWp.seq ?_ | refine LWp.region ?_ | refine LWp.block ?_ | refine LWp.exit ?_ | refine LWp.ret ?_ | refine LWp.skip ?_ | refine LOps.val (LVal.call rfl rfl (by rw [hP]; exact Try.func12) rfl (by decide) (c2)) rfl rfl rfl ?_ | refine LOps.val (LVal.call rfl rfl (by rw [hP]; exact Try.func13) rfl (by decide) (c3)) rfl rfl rfl ?_ | refine LOps.whenC (LVal.call rfl rfl (by rw [hP]; exact Try.func12) rfl (by decide) (c2)) ?_ | refine LOps.whenC (LVal.call rfl rfl (by rw [hP]; exact Try.func13) rfl (by decide) (c3)) ?_ | refine LOps.valA ?_ | refine LOps.outA ?_ | refine LOps.whenA ?_ | refine LOps.pickA ?_ | refine LOps.storeA ?_)
    refine LWp.cond rfl (fun hh => ?_) (fun hh => ?_)
    · have hh : (((rightN n && coversN n key) && !n.leaf) && !anyA n.keys key) = true := hh
      rw [shut_is] at hh
      have hs : shutN n key = false := by simpa using hh
      obtain ⟨hno, hl, hr, hc⟩ := shutN_no hs
      obtain ⟨hvl, hkd⟩ := rightN_inner hr hl
      have hrs := rightN_rises hr
      have hcl := cntK_le n.keys key
      rw [add_is hs] at hC
      subst hC
      refine LWp.slots [(1, .one (sv key)), (4, ptr b4), (7, ptr b7), (9, ptr b9), (13, ptr b13), (16, ptr b16), (19, ptr b19), (20, ptr b20), (21, ptr b21), (22, ptr b22), (23, .one (iv (cntK n.keys key : Nat)))] ⟨rfl, rfl, rfl, rfl, rfl, rfl, rfl, rfl, rfl, rfl, by rw [← cnt_eq hrs]; rfl, trivial⟩ fun T21 => ?_
      obtain ⟨c, hcc⟩ : ∃ c, c = cntK n.keys key := ⟨_, rfl⟩
      rw [← hcc] at hcl ⊢
      repeat (first | refine LOps.valH (LVal.load hD rfl rfl q4 rfl rfl) ?_ | refine LOps.nil ?_ | refine andThen_normal ?_ | refine andThen_exit ?_ | refine andThen_ret ?_ | refine inBlock_normal ?_ | refine inBlock_ret ?_ | refine inBlock_here ?_ | refine inBlock_out rfl ?_ | refine LWp.seq ?_ | refine LWp.region ?_ | refine LWp.block ?_ | refine LWp.exit ?_ | refine LWp.ret ?_ | refine LWp.skip ?_ | refine LOps.val (LVal.call rfl rfl (by rw [hP]; exact Try.func23) rfl (by decide) (c1)) rfl rfl rfl ?_ | refine LOps.whenC (LVal.call rfl rfl (by rw [hP]; exact Try.func23) rfl (by decide) (c1)) ?_ | refine LOps.valA ?_ | refine LOps.outA ?_ | refine LOps.whenA ?_ | refine LOps.pickA ?_)
      refine LOps.storeA (b := b22) (off := 0) (cs := ndL n) (l := ndL n) ?_
      refine LOps.gen (fun S' => S.le S' ∧ S'.box b4 = some (ndL n) ∧ S'.box b7 = some (hdL kid) ∧ Sto Sw S' b20 b21 b22 ∧ S'.box b20 = some (ndL A) ∧ S'.box b21 = some (ndL B) ∧ S'.box b22 = some (ndL n)) ⟨hle.setBox s22 _, (box_set_ne _ _ n4_22).trans q4, (box_set_ne _ _ n7_22).trans q7, fun d cs hd h1 h2 h3 => (box_set_ne _ _ h3).trans (st d cs hd h1 h2 h3), (box_set_ne _ _ d2).trans k20, (box_set_ne _ _ d3).trans k21, box_set _ _ _⟩ ?_
      clear hle q4 q7 st k20 k21 k22
      rintro Sy ⟨hle, q4, q7, st, k20, k21, k22⟩
      have m1 : ((n.keys.take c).map sL).length = c := by rw [List.length_map, List.length_take]; omega
      have m2 : ((n.keys.drop c).map sL).length = n.keys.length - c := by rw [List.length_map, List.length_drop]
      have eK : (([] ++ (n.keys.take c).map sL) ++ [sL key]) ++ (n.keys.drop c).map sL = (insL n.keys c key).map sL := by simp [insL]
      repeat (first | refine LOps.nil ?_ | refine andThen_normal ?_ | refine andThen_exit ?_ | refine andThen_ret ?_ | refine inBlock_normal ?_ | refine inBlock_ret ?_ | refine inBlock_here ?_ | refine inBlock_out rfl ?_ | refine LWp.seq ?_ | refine LWp.region ?_ | refine LWp.block ?_ | refine LWp.exit ?_ | refine LWp.ret ?_ | refine LWp.skip ?_ | refine LOps.valA ?_ | refine LOps.outA ?_ | refine LOps.whenA ?_ | refine LOps.pickA ?_ | refine LOps.storeA ?_)
      refine LWp.drawX (fun b => b = b22) [1, 2, 3, 4, 6, 7, 9, 10, 11, 12, 0, 5, 8, 13, 14, 15] (by rw [hP]; rfl) rfl ?_
      repeat (first | refine LRl.valH (LVal.load hD rfl rfl q4 rfl rfl) ?_ (fun _ hS => LVal.load hD rfl rfl (hS.box _ _ q4 (by first | exact id | (intro hx; rcases hx with hx | hx <;> omega) | (intro hx; have hx2 : _ = _ := hx; omega) | (intro hx; exact absurd hx.1 (by decide)))) rfl rfl) | refine LRl.nil ?_ | refine LRl.valA ?_ | refine LRl.outA ?_ | refine LRl.whenA ?_ | refine LRl.pickA ?_)
      refine LRl.act (LDo.emptySlice hD rfl rfl rfl rfl rfl rfl rfl) rfl rfl rfl rfl (by rintro _ _ ⟨b, hb, rfl, rfl⟩; exact .inl (.newRow hb _ _)) ?_
      rintro _ _ ⟨r0, hr0, rfl, rfl⟩
      have hle1 := hle.newRow hr0 9 0
      refine LRl.act (LDo.appendN hD rfl rfl rfl rfl rfl rfl rfl rfl rfl (show [].length = 0 from rfl) m1 (.new _ _ _ _) (cS _) (by omega)) rfl rfl rfl rfl (by rintro _ _ ⟨_, _, _, hup, _⟩; exact .inl (.upto hup)) ?_
      rintro _ S31 ⟨o1, rfl, own1, hup1, hno1⟩
      have hout1 := (Out.fresh hle hr0).next hle1 hno1
      have hle2 := hle1.upto hup1 (Out.fresh hle hr0)
      refine LRl.act (LDo.appendN hD rfl rfl rfl rfl rfl rfl rfl rfl rfl (show _ = 0 + c by rw [List.nil_append, m1, Nat.zero_add]) (show [sL key].length = 1 from rfl) own1 (by intro e he; rw [List.mem_singleton.1 he]; rfl) (by omega)) rfl rfl rfl rfl (by rintro _ _ ⟨_, _, _, hup, _⟩; exact .inl (.upto hup)) ?_
      rintro _ S32 ⟨o2, rfl, own2, hup2, hno2⟩
      have hout2 := hout1.next hle2 hno2
      have hle3 := hle2.upto hup2 hout1
      refine LRl.act (LDo.appendN hD rfl rfl rfl rfl rfl rfl rfl rfl rfl (show _ = 0 + c + 1 by rw [List.length_append, List.nil_append, m1, Nat.zero_add]; rfl) m2 own2 (cS _) (by omega)) rfl rfl rfl rfl (by rintro _ _ ⟨_, _, _, hup, _⟩; exact .inl (.upto hup)) ?_
      rintro _ S33 ⟨o3, rfl, own3, hup3, hno3⟩
      have hle4 := hle3.upto hup3 hout2
      have kk : ∀ d cs, Sy.box d = some cs → S33.box d = some cs := fun d cs h => hup3.box _ _ (hup2.box _ _ (hup1.box _ _ h))
      repeat (first | refine LRl.nil ?_ | refine LRl.valA ?_ | refine LRl.outA ?_ | refine LRl.whenA ?_ | refine LRl.pickA ?_)
      refine LRl.act0 (LDo.store hD rfl rfl (kk _ _ k22) rfl rfl rfl rfl) rfl rfl rfl (fun _ _ _ => .inr rfl) ?_
      rintro _ _ ⟨rfl, rfl⟩
      repeat (first | refine LRl.nil ?_ | refine LRl.valA ?_ | refine LRl.outA ?_ | refine LRl.whenA ?_ | refine LRl.pickA ?_)
      refine LWp.gen (fun S' => S.le S' ∧ S'.box b4 = some (ndL n) ∧ S'.box b7 = some (hdL kid) ∧ Sto Sw S' b20 b21 b22 ∧ S'.box b20 = some (ndL A) ∧ S'.box b21 = some (ndL B) ∧ S'.box b22 = some (ndX n (.sl o3 ((insL n.keys c key).map sL)) (.sl .sh (n.vals.map sL)) (.sl .sh (n.kids.map hdL)))) ⟨hle4.setBox s22 _, (box_set_ne _ _ n4_22).trans (kk _ _ q4), (box_set_ne _ _ n7_22).trans (kk _ _ q7), fun d cs hd h1 h2 h3 => (box_set_ne _ _ h3).trans (kk _ _ (st d cs hd h1 h2 h3)), (box_set_ne _ _ d2).trans (kk _ _ k20), (box_set_ne _ _ d3).trans (kk _ _ k21), (box_set _ _ _).trans (by rw [← eK]; rfl)⟩ ?_
      clear hle hle1 hle2 hle3 hle4 q4 q7 st k20 k21 k22 kk own1 own2 own3 hup1 hup2 hup3 hno1 hno2 hno3 hout1 hout2 hr0
      rintro Sz ⟨hle, q4, q7, st, k20, k21, k22⟩
      have m3 : ((n.kids.take (c + 1)).map hdL).length = c + 1 := by rw [List.length_map, List.length_take]; omega
      have m4 : ((n.kids.drop (c + 1)).map hdL).length = n.kids.length - (c + 1) := by rw [List.length_map, List.length_drop]
      have eC : ∀ p3, ndX (n.add c key kid) (.sl o3 ((n.add c key kid).keys.map sL)) (.sl .sh ((n.add c key kid).vals.map sL)) (.sl p3 ((n.add c key kid).kids.map hdL)) = ndX n (.sl o3 ((insL n.keys c key).map sL)) (.sl .sh (n.vals.map sL)) (.sl p3 ((insL n.kids (c + 1) kid).map hdL)) := fun _ => rfl
      have eH : (([] ++ (n.kids.take (c + 1)).map hdL) ++ [hdL kid]) ++ (n.kids.drop (c + 1)).map hdL = (insL n.kids (c + 1) kid).map hdL := by simp [insL]
      refine LWp.drawX (fun b => b = b22) [1, 2, 3, 4, 5, 7, 8, 10, 11, 12, 13, 14, 0, 6, 9, 15, 16, 17] (by rw [hP]; rfl) rfl ?_
      repeat (first | refine LRl.valH (LVal.load hD rfl rfl q4 rfl rfl) ?_ (fun _ hS => LVal.load hD rfl rfl (hS.box _ _ q4 (by first | exact id | (intro hx; rcases hx with hx | hx <;> omega) | (intro hx; have hx2 : _ = _ := hx; omega) | (intro hx; exact absurd hx.1 (by decide)))) rfl rfl) | refine LRl.valH (LVal.load hD rfl rfl q7 rfl rfl) ?_ (fun _ hS => LVal.load hD rfl rfl (hS.box _ _ q7 (by first | exact id | (intro hx; rcases hx with hx | hx <;> omega) | (intro hx; have hx2 : _ = _ := hx; omega) | (intro hx; exact absurd hx.1 (by decide)))) rfl rfl) | refine LRl.val (fun _ _ => LVal.to (LVal.add64 rfl rfl rfl (by omega)) (r' := .one (iv ((c + 1 : Nat) : Int))) (by exact congrArg (fun x => TV.one (iv x)) (by omega))) rfl rfl rfl ?_ | refine LRl.nil ?_ | refine LRl.valA ?_ | refine LRl.outA ?_ | refine LRl.whenA ?_ | refine LRl.pickA ?_)
      refine LRl.act (LDo.emptySlice hD rfl rfl rfl rfl rfl rfl rfl) rfl rfl rfl rfl (by rintro _ _ ⟨b, hb, rfl, rfl⟩; exact .inl (.newRow hb _ _)) ?_
      rintro _ _ ⟨r0, hr0, rfl, rfl⟩
      have hle1 := hle.newRow hr0 26 0
      refine LRl.act (LDo.appendN hD rfl rfl rfl rfl rfl rfl rfl rfl rfl (show [].length = 0 from rfl) m3 (.new _ _ _ _) (cH _) (by omega)) rfl rfl rfl rfl (by rintro _ _ ⟨_, _, _, hup, _⟩; exact .inl (.upto hup)) ?_
      rintro _ S41 ⟨p1, rfl, own1, hup1, hno1⟩
      have hout1 := (Out.fresh hle hr0).next hle1 hno1
      have hle2 := hle1.upto hup1 (Out.fresh hle hr0)
      refine LRl.act (LDo.appendN hD rfl rfl rfl rfl rfl rfl rfl rfl rfl (show _ = 0 + (c + 1) by rw [List.nil_append, m3, Nat.zero_add]) (show [hdL kid].length = 1 from rfl) own1 (by intro e he; rw [List.mem_singleton.1 he]; rfl) (by omega)) rfl rfl rfl rfl (by rintro _ _ ⟨_, _, _, hup, _⟩; exact .inl (.upto hup)) ?_
      rintro _ S42 ⟨p2, rfl, own2, hup2, hno2⟩
      have hout2 := hout1.next hle2 hno2
      have hle3 := hle2.upto hup2 hout1
      refine LRl.act (LDo.appendN hD rfl rfl rfl rfl rfl rfl rfl rfl rfl (show _ = 0 + (c + 1) + 1 by rw [List.length_append, List.nil_append, m3, Nat.zero_add]; rfl) m4 own2 (cH _) (by omega)) rfl rfl rfl rfl (by rintro _ _ ⟨_, _, _, hup, _⟩; exact .inl (.upto hup)) ?_
      rintro _ S43 ⟨p3, rfl, own3, hup3, hno3⟩
      have hle4 := hle3.upto hup3 hout2
      have kk : ∀ d cs, Sz.box d = some cs → S43.box d = some cs := fun d cs h => hup3.box _ _ (hup2.box _ _ (hup1.box _ _ h))
      repeat (first | refine LRl.nil ?_ | refine LRl.valA ?_ | refine LRl.outA ?_ | refine LRl.whenA ?_ | refine LRl.pickA ?_)
      refine LRl.act0 (LDo.store hD rfl rfl (kk _ _ k22) rfl rfl rfl rfl) rfl rfl rfl (fun _ _ _ => .inr rfl) ?_
      rintro _ _ ⟨rfl, rfl⟩
      repeat (first | refine LRl.nil ?_ | refine LRl.valA ?_ | refine LRl.outA ?_ | refine LRl.whenA ?_ | refine LRl.pickA ?_)
      repeat (first | refine LOps.nil ?_ | refine andThen_normal ?_ | refine andThen_exit ?_ | refine andThen_ret ?_ | refine inBlock_normal ?_ | refine inBlock_ret ?_ | refine inBlock_here ?_ | refine inBlock_out rfl ?_ | refine LWp.seq ?_ | refine LWp.region ?_ | refine LWp.block ?_ | refine LWp.exit ?_ | refine LWp.ret ?_ | refine LWp.skip ?_ | refine LOps.valA ?_ | refine LOps.outA ?_ | refine LOps.whenA ?_ | refine LOps.pickA ?_ | refine LOps.storeA ?_)
      exact ⟨hle4.setBox s22 _, fun d cs hd h1 h2 h3 => (box_set_ne _ _ h3).trans (kk _ _ (st d cs hd h1 h2 h3)), (box_set_ne _ _ d2).trans (kk _ _ k20), (box_set_ne _ _ d3).trans (kk _ _ k21), ⟨o3, p3, (box_set _ _ _).trans (by rw [eC, ← eH]; rfl)⟩, _, holds.over ⟨rfl, rfl, rfl, rfl, rfl, rfl, rfl, rfl, trivial⟩⟩
    · have hh : (((rightN n && coversN n key) && !n.leaf) && !anyA n.keys key) = false := hh
      rw [shut_is] at hh
      have hs : shutN n key = true := by simpa using hh
      have e : C = n := by rw [← hC, addN, if_pos hs]
      repeat (first | refine LOps.nil ?_ | refine andThen_normal ?_ | refine andThen_exit ?_ | refine andThen_ret ?_ | refine inBlock_normal ?_ | refine inBlock_ret ?_ | refine inBlock_here ?_ | refine inBlock_out rfl ?_ | refine LWp.seq ?_ | refine LWp.region ?_ | refine LWp.block ?_ | refine LWp.exit ?_ | refine LWp.ret ?_ | refine LWp.skip ?_ | refine LOps.valA ?_ | refine LOps.outA ?_ | refine LOps.whenA ?_ | refine LOps.pickA ?_ | refine LOps.storeA ?_)
      exact ⟨hle, st, k20, k21, ⟨.sh, .sh, by rw [e]; exact k22⟩, _, holds.over ⟨rfl, rfl, rfl, rfl, rfl, rfl, rfl, rfl, trivial⟩⟩
  clear hle st k20 k21 k22 q4 q7
  rintro _ Sv ⟨hle, st, k20, k21, ⟨o3, p3, k22⟩, T25, rfl⟩
  replace k4 := st _ _ k4 n4_20 n4_21 n4_22
  replace k9 := st _ _ k9 n9_20 n9_21 n9_22
  replace k13 := st _ _ k13 n13_20 n13_21 n13_22
  replace k16 := st _ _ k16 n16_20 n16_21 n16_22
  replace k19 := st _ _ k19 n19_20 n19_21 n19_22
  replace RA := RA.sto st offA20 offA21 offA22
  replace RB := RB.sto st offB20 offB21 offB22
  replace RC := RC.sto st offC20 offC21 offC22
  clear st k7
  repeat (first | refine LOps.valH (LVal.load hD rfl rfl k13 rfl rfl) ?_ | refine LOps.valH (LVal.load hD rfl rfl k20 rfl rfl) ?_ | refine LOps.valH (LVal.callAny (fun G' e => equal_F (e.trans hP) A A okA) rfl rfl (by rw [hP]; exact Try.func22) rfl (by decide) ⟨.agg RA.views, .agg (nd_views _ _), trivial⟩) ?_ | refine LOps.whenC (LVal.load hD rfl rfl k16 rfl rfl) ?_ | refine LOps.whenC (LVal.load hD rfl rfl k21 rfl rfl) ?_ | refine LOps.whenC (LVal.load hD rfl rfl k19 rfl rfl) ?_ | refine LOps.whenC (LVal.load hD rfl rfl k22 rfl rfl) ?_ | refine LOps.whenC (LVal.callAny (fun G' e => equal_F (e.trans hP) B B okB) rfl rfl (by rw [hP]; exact Try.func22) rfl (by decide) ⟨.agg RB.views, .agg (nd_views _ _), trivial⟩) ?_ | refine LOps.whenC (LVal.callAny (fun G' e => equal_F (e.trans hP) C C okC) rfl rfl (by rw [hP]; exact Try.func22) rfl (by decide) ⟨.agg RC.views, .agg ⟨.same _, .sh _ _, .sh _ _, .sh _ _, .same _, .same _, .same _, .same _, trivial⟩, trivial⟩) ?_ | refine LOps.nil ?_ | refine andThen_normal ?_ | refine andThen_exit ?_ | refine andThen_ret ?_ | refine inBlock_normal ?_ | refine inBlock_ret ?_ | refine inBlock_here ?_ | refine inBlock_out rfl ?_ | refine LWp.seq ?_ | refine LWp.region ?_ | refine LWp.block ?_ | refine LWp.exit ?_ | refine LWp.ret ?_ | refine LWp.skip ?_ | refine LOps.valA ?_ | refine LOps.outA ?_ | refine LOps.whenA ?_ | refine LOps.pickA ?_ | refine LOps.storeA ?_)
  refine LWp.cond rfl (fun hx => ?_) (fun hx => ?_)
  · exfalso; simp at hx
  clear hx
  refine LWp.slots [(4, ptr b4), (9, ptr b9), (13, ptr b13), (16, ptr b16), (19, ptr b19)] ⟨rfl, rfl, rfl, rfl, rfl, trivial⟩ fun T27 => ?_
  repeat (first | refine LOps.valH (LVal.load hD rfl rfl k13 rfl rfl) ?_ | refine LOps.nil ?_ | refine andThen_normal ?_ | refine andThen_exit ?_ | refine andThen_ret ?_ | refine inBlock_normal ?_ | refine inBlock_ret ?_ | refine inBlock_here ?_ | refine inBlock_out rfl ?_ | refine LWp.seq ?_ | refine LWp.region ?_ | refine LWp.block ?_ | refine LWp.exit ?_ | refine LWp.ret ?_ | refine LWp.skip ?_ | refine LOps.valA ?_ | refine LOps.outA ?_ | refine LOps.whenA ?_ | refine LOps.pickA ?_ | refine LOps.storeA ?_)
  refine LOps.do (LDo.callX (spoil_L hP A okA _ _ _ _ RA.x RA.y RA.z RA.xy RA.xz RA.yz) (by rw [hP]; exact Try.func25)) rfl rfl rfl ?_
  rintro r27 S27 sp
  replace k4 := sp.box _ _ k4 offA4.1 offA4.2.1 offA4.2.2
  replace k9 := sp.box _ _ k9 offA9.1 offA9.2.1 offA9.2.2
  replace k16 := sp.box _ _ k16 offA16.1 offA16.2.1 offA16.2.2
  replace k19 := sp.box _ _ k19 offA19.1 offA19.2.1 offA19.2.2
  replace RB := RB.spo sp apAB.symm
  replace RC := RC.spo sp apAC.symm
  clear sp RA k13 k20 k21 k22
  repeat (first | refine LOps.valH (LVal.load hD rfl rfl k16 rfl rfl) ?_ | refine LOps.nil ?_ | refine andThen_normal ?_ | refine andThen_exit ?_ | refine andThen_ret ?_ | refine inBlock_normal ?_ | refine inBlock_ret ?_ | refine inBlock_here ?_ | refine inBlock_out rfl ?_ | refine LWp.seq ?_ | refine LWp.region ?_ | refine LWp.block ?_ | refine LWp.exit ?_ | refine LWp.ret ?_ | refine LWp.skip ?_ | refine LOps.valA ?_ | refine LOps.outA ?_ | refine LOps.whenA ?_ | refine LOps.pickA ?_ | refine LOps.storeA ?_)
  refine LOps.do (LDo.callX (spoil_L hP B okB _ _ _ _ RB.x RB.y RB.z RB.xy RB.xz RB.yz) (by rw [hP]; exact Try.func25)) rfl rfl rfl ?_
  rintro r28 S28 sp
  replace k4 := sp.box _ _ k4 offB4.1 offB4.2.1 offB4.2.2
  replace k9 := sp.box _ _ k9 offB9.1 offB9.2.1 offB9.2.2
  replace k19 := sp.box _ _ k19 offB19.1 offB19.2.1 offB19.2.2
  replace RC := RC.spo sp apBC.symm
  clear sp RB k16
  repeat (first | refine LOps.valH (LVal.load hD rfl rfl k19 rfl rfl) ?_ | refine LOps.nil ?_ | refine andThen_normal ?_ | refine andThen_exit ?_ | refine andThen_ret ?_ | refine inBlock_normal ?_ | refine inBlock_ret ?_ | refine inBlock_here ?_ | refine inBlock_out rfl ?_ | refine LWp.seq ?_ | refine LWp.region ?_ | refine LWp.block ?_ | refine LWp.exit ?_ | refine LWp.ret ?_ | refine LWp.skip ?_ | refine LOps.valA ?_ | refine LOps.outA ?_ | refine LOps.whenA ?_ | refine LOps.pickA ?_ | refine LOps.storeA ?_)
  refine LOps.do (LDo.callX (spoil_L hP C okC _ _ _ _ RC.x RC.y RC.z RC.xy RC.xz RC.yz) (by rw [hP]; exact Try.func25)) rfl rfl rfl ?_
  rintro r29 S29 sp
  replace k4 := sp.box _ _ k4 offC4.1 offC4.2.1 offC4.2.2
  replace k9 := sp.box _ _ k9 offC9.1 offC9.2.1 offC9.2.2
  clear sp RC k19
  have ce := equal_F hP n n hn
  repeat (first | refine LOps.valH (LVal.load hD rfl rfl k4 rfl rfl) ?_ | refine LOps.valH (LVal.load hD rfl rfl k9 rfl rfl) ?_ | refine LOps.nil ?_ | refine andThen_normal ?_ | refine andThen_exit ?_ | refine andThen_ret ?_ | refine inBlock_normal ?_ | refine inBlock_ret ?_ | refine inBlock_here ?_ | refine inBlock_out rfl ?_ | refine LWp.seq ?_ | refine LWp.region ?_ | refine LWp.block ?_ | refine LWp.exit ?_ | refine LWp.ret ?_ | refine LWp.skip ?_ | refine LOps.val (LVal.call rfl rfl (by rw [hP]; exact Try.func22) rfl (by decide) (ce)) rfl rfl rfl ?_ | refine LOps.whenC (LVal.call rfl rfl (by rw [hP]; exact Try.func22) rfl (by decide) (ce)) ?_ | refine LOps.valA ?_ | refine LOps.outA ?_ | refine LOps.whenA ?_ | refine LOps.pickA ?_ | refine LOps.storeA ?_)
  refine ⟨_, LRes.one rfl, ?_⟩
  show TV.one (bv (decide (n = n))) = _
  rw [decide_eq_true rfl]
end Go.Proofs.Ytjcpcgneghanfaa.LF

namespace Go.Proofs.Ytjcpcgneghanfaa
open Go.RowKit LF
theorem blnodeWrites_walk (W : World) (v0 : Value) (l0 : List LV) (y0 : Typed LF.D 28 l0) (g0 : RepT (G0 Try.prog W) W (allCells W) (argTV ti28 l0) v0) (v1 : Value) (l1 : List LV) (y1 : Typed LF.D 9 l1) (g1 : RepT (G0 Try.prog W) W (allCells W) (argTV ti9 l1) v1) (v2 : Value) (l2 : List LV) (y2 : Typed LF.D 9 l2) (g2 : RepT (G0 Try.prog W) W (allCells W) (argTV ti9 l2) v2) (v3 : Value) (l3 : List LV) (y3 : Typed LF.D 26 l3) (g3 : RepT (G0 Try.prog W) W (allCells W) (argTV ti26 l3) v3) :
    Calls Try.prog 7 #[v0, v1, v2, v3] W fun e W' => e = .returned (.bool true) ∧ Below W.heap.size W W' := by
  obtain ⟨n, rfl, hz⟩ := typed_nd y0
  obtain ⟨k, rfl, hk⟩ := typed_key y1
  obtain ⟨v, rfl, hv⟩ := typed_key y2
  obtain ⟨h0, rfl⟩ := typed_hd y3
  exact law_calls (fun G S h => writes_L h n hz k v hk h0 S) (.cons (vs := [v1, v2, v3]) g0 (.cons (vs := [v2, v3]) g1 (.cons (vs := [v3]) g2 (.cons (vs := []) g3 .nil))))
end Go.Proofs.Ytjcpcgneghanfaa
