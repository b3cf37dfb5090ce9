/- The node: All, whose children are told by an iterator, of type int. (Printed by gen_art.py.) -/
import Derived.Test.YtinbibeapooghaaLAeI
set_option linter.unusedVariables false
set_option linter.unusedSimpArgs false
namespace Go.Proofs.Ytinbibeapooghaa.LF
open Go.RowKit
set_option linter.unusedVariables false
attribute [local irreducible] andThen inBlock LWp LOps LCalls

/-- A thing whose From tells these children. -/
structure TellsI (G : Ctx) (P : LS → Prop) (rv : LV) (l : Kv Int) : Prop where
  le : ∀ S S', P S → S.le S' → P S'
  frm : ∀ S n, P S → LCalls G 15 [.one rv, .one (iv n)] (fun r S' => r = fromI (fromL l n) ∧ S' = S) S
  sh : shLV rv = rv
  ks : KS l
theorem NodeI.tells {G : Ctx} (hP : G.P = Try.prog) {S : LS} {F : Nat → Prop} {b k : Nat} {l : Kv Int} (h : NodeI S F b k l) : TellsI G (fun S => NodeI S F b k l) (.v (.pointer (some ⟨b, 0, none⟩))) l :=
  ⟨fun _ _ h hle => h.le hle, fun _ n h => nodeI_from hP h n, rfl, h.ok.ks⟩
theorem fromNI_F {G : Ctx} (hP : G.P = Try.prog) (n : Int) : LFun G 15 [.one (.v (.pointer none)), .one (iv n)] (fromI none) := LFun.of fun S => by
  have hD : TabOK G.P D := by rw [hP]; exact hD0
  refine LCalls.enter (fn := Try.f15) (by rw [hP]; exact Try.func15) rfl rfl ?_
  repeat (first | refine LWp.condT rfl ?_ | refine LOps.nil ?_ | refine andThen_normal ?_ | refine andThen_exit ?_ | refine andThen_ret ?_ | refine inBlock_normal ?_ | refine inBlock_ret ?_ | refine inBlock_here ?_ | refine inBlock_out rfl ?_ | refine LWp.seq ?_ | refine LWp.region ?_ | refine LWp.block ?_ | refine LWp.exit ?_ | refine LWp.ret ?_ | refine LWp.skip ?_ | refine LOps.val (LVal.call rfl rfl (by rw [hP]; exact Try.func29) rfl (by decide) (noneNI_F hP)) rfl rfl rfl ?_ | refine LOps.whenC (LVal.call rfl rfl (by rw [hP]; exact Try.func29) rfl (by decide) (noneNI_F hP)) ?_ | refine LOps.valA ?_ | refine LOps.outA ?_ | refine LOps.whenA ?_ | refine LOps.pickA ?_ | refine LOps.storeA ?_)
  exact ⟨_, LRes.three rfl, rfl, .refl _⟩

def tabI (a b : Nat) (l : Kv Int) (S : LS) : Prop := S.box a = some [.sl .sh (l.map keyL)] ∧ S.box b = some [.sl .sh (l.map kidI)]
abbrev allVI (a b : Nat) : LV := .v (.func (.func 32) #[] #[.pointer (some ⟨a, 0, none⟩), .pointer (some ⟨b, 0, none⟩)])
/-- What All answers: two variables of the children. -/
def AllRI (S : LS) (l : Kv Int) (r : TV) (S' : LS) : Prop := ∃ a b, r = .one (allVI a b) ∧ S.le S' ∧ S.box a = none ∧ S.box b = none ∧ tabI a b l S'

set_option maxHeartbeats 8000000 in
set_option maxRecDepth 20000 in
theorem allI_L {G : Ctx} (hP : G.P = Try.prog) {P : LS → Prop} {rv : LV} {l : Kv Int} (ht : TellsI G P rv l) {S : LS} (hS : P S) :
    LCalls G 19 [.one rv] (AllRI S l) S := by
  have hD : TabOK G.P D := by rw [hP]; exact hD0
  have ks := ht.ks
  have hlen := ks.len
  refine LCalls.enter (fn := Try.f19) (by rw [hP]; exact Try.func19) rfl rfl ?_
  repeat (first | refine LOps.nil ?_ | refine andThen_normal ?_ | refine andThen_exit ?_ | refine andThen_ret ?_ | refine inBlock_normal ?_ | refine inBlock_ret ?_ | refine inBlock_here ?_ | refine inBlock_out rfl ?_ | refine LWp.seq ?_ | refine LWp.region ?_ | refine LWp.block ?_ | refine LWp.exit ?_ | refine LWp.ret ?_ | refine LWp.skip ?_ | refine LOps.valA ?_ | refine LOps.outA ?_ | refine LOps.whenA ?_ | refine LOps.pickA ?_ | refine LOps.storeA ?_)
  have hle := LS.le.refl S
  refine LOps.do (LDo.alloc hD rfl rfl rfl) rfl rfl rfl ?_
  rintro _ _ ⟨b3, hb3, rfl, rfl⟩
  have s3 := hle.none hb3
  refine LOps.gen (fun S' => S.le S' ∧ S'.box b3 = some ([.sl .nil []])) ⟨hle.newBox hb3 _, box_new _ _ _⟩ ?_
  clear hle hb3 
  rintro S3 ⟨hle, k3⟩
  repeat (first | refine LOps.nil ?_ | refine andThen_normal ?_ | refine andThen_exit ?_ | refine andThen_ret ?_ | refine inBlock_normal ?_ | refine inBlock_ret ?_ | refine inBlock_here ?_ | refine inBlock_out rfl ?_ | refine LWp.seq ?_ | refine LWp.region ?_ | refine LWp.block ?_ | refine LWp.exit ?_ | refine LWp.ret ?_ | refine LWp.skip ?_ | refine LOps.valA ?_ | refine LOps.outA ?_ | refine LOps.whenA ?_ | refine LOps.pickA ?_ | refine LOps.storeA ?_)
  skip
  refine LOps.do (LDo.alloc hD rfl rfl rfl) rfl rfl rfl ?_
  rintro _ _ ⟨b4, hb4, rfl, rfl⟩
  have n3_4 := fresh_ne hb4 k3
  have m4_3 := n3_4.symm
  have s4 := hle.none hb4
  refine LOps.gen (fun S' => S.le S' ∧ S'.box b3 = some ([.sl .nil []]) ∧ S'.box b4 = some ([.sl .nil []])) ⟨hle.newBox hb4 _, (box_new_ne _ _ n3_4).trans k3, box_new _ _ _⟩ ?_
  clear hle hb4 k3
  rintro S4 ⟨hle, k3, k4⟩
  repeat (first | refine LOps.nil ?_ | refine andThen_normal ?_ | refine andThen_exit ?_ | refine andThen_ret ?_ | refine inBlock_normal ?_ | refine inBlock_ret ?_ | refine inBlock_here ?_ | refine inBlock_out rfl ?_ | refine LWp.seq ?_ | refine LWp.region ?_ | refine LWp.block ?_ | refine LWp.exit ?_ | refine LWp.ret ?_ | refine LWp.skip ?_ | refine LOps.valA ?_ | refine LOps.outA ?_ | refine LOps.whenA ?_ | refine LOps.pickA ?_ | refine LOps.storeA ?_)
  refine LOps.do (LDo.callX (ht.frm _ 0 (ht.le _ _ hS hle)) (by rw [hP]; exact Try.func15)) rfl rfl rfl ?_
  rintro _ _ ⟨rfl, rfl⟩
  rw [fromL_zero]
  have e0 : ∃ (x : Int) (y : Int) (z : Bool), fromI l[0]? = .tup [.one (uv x), .one (iv y), .one (bv z)] ∧ (z = true → ∃ h : 0 < l.length, x = ((l[0].1 : Nat) : Int) ∧ y = l[0].2) ∧ (z = false → l.length = 0) := by
    rcases Nat.eq_zero_or_pos l.length with h | h
    · exact ⟨0, 0, false, by rw [List.getElem?_eq_none (by omega)]; rfl, fun e => (by cases e), fun _ => h⟩
    · exact ⟨_, _, true, by rw [List.getElem?_eq_getElem h]; rfl, fun _ => ⟨h, rfl, rfl⟩, fun e => (by cases e)⟩
  obtain ⟨x0, y0, z0, e0, t0, f0⟩ := e0
  rw [e0]
  repeat (first | refine LOps.nil ?_ | refine andThen_normal ?_ | refine andThen_exit ?_ | refine andThen_ret ?_ | refine inBlock_normal ?_ | refine inBlock_ret ?_ | refine inBlock_here ?_ | refine inBlock_out rfl ?_ | refine LWp.seq ?_ | refine LWp.region ?_ | refine LWp.block ?_ | refine LWp.exit ?_ | refine LWp.ret ?_ | refine LWp.skip ?_ | refine LOps.valA ?_ | refine LOps.outA ?_ | refine LOps.whenA ?_ | refine LOps.pickA ?_ | refine LOps.storeA ?_)
  refine LWp.loop (fun m T S' => ∃ (T' : Nat → TV) (j : Nat) (o1 o2 : Own) (x : Int) (y : Int) (z : Bool), j ≤ l.length ∧ m = l.length - j ∧ S.le S' ∧ S'.box b3 = some [.sl o1 ((l.take j).map keyL)] ∧ S'.box b4 = some [.sl o2 ((l.take j).map kidI)] ∧
      Owned S' 5 j o1 ∧ Owned S' 3 j o2 ∧ (∀ b, o1 = .own b → o2 ≠ .own b) ∧ Out S o1 ∧ Out S o2 ∧ (z = true → ∃ h : j < l.length, x = ((l[j].1 : Nat) : Int) ∧ y = l[j].2) ∧ (z = false → l.length = j) ∧
      T = over T' [(0, .one rv), (3, ptr b3), (4, ptr b4), (5, .one (uv x)), (6, .one (iv y)), (7, .one (bv z))]) l.length ?_ ?_
  · exact ⟨_, 0, .nil, .nil, x0, y0, z0, by omega, by omega, hle, k3, k4, rfl, rfl, (fun b h => by cases h), .nil _, .nil _, t0, f0, holds.over ⟨rfl, rfl, rfl, rfl, rfl, rfl, trivial⟩⟩
  clear hle k3 k4 e0 t0 f0
  rintro m T S1 ⟨T', j, o1, o2, x, y, z, hj, rfl, hle, k3, k4, own1, own2, hne, out1, out2, tt, ff, rfl⟩
  have hPS := ht.le _ _ hS hle
  repeat (first | refine LOps.nil ?_ | refine andThen_normal ?_ | refine andThen_exit ?_ | refine andThen_ret ?_ | refine inBlock_normal ?_ | refine inBlock_ret ?_ | refine inBlock_here ?_ | refine inBlock_out rfl ?_ | refine LWp.seq ?_ | refine LWp.region ?_ | refine LWp.block ?_ | refine LWp.exit ?_ | refine LWp.ret ?_ | refine LWp.skip ?_ | refine LOps.valA ?_ | refine LOps.outA ?_ | refine LOps.whenA ?_ | refine LOps.pickA ?_ | refine LOps.storeA ?_)
  refine LWp.cond rfl (fun h => ?_) (fun h => ?_)
  · have h : z = true := h
    obtain ⟨hlt, rfl, rfl⟩ := tt h
    subst h
    clear tt ff
    have m1 : ((l.take j).map keyL).length = j := by simp; omega
    have m2 : ((l.take j).map kidI).length = j := by simp; omega
    have e1 : (l.take (j + 1)).map keyL = (l.take j).map keyL ++ [keyL l[j]] := by rw [List.take_succ_eq_append_getElem hlt, List.map_append]; rfl
    have e2 : (l.take (j + 1)).map kidI = (l.take j).map kidI ++ [kidI l[j]] := by rw [List.take_succ_eq_append_getElem hlt, List.map_append]; rfl
    repeat (first | refine LOps.nil ?_ | refine andThen_normal ?_ | refine andThen_exit ?_ | refine andThen_ret ?_ | refine inBlock_normal ?_ | refine inBlock_ret ?_ | refine inBlock_here ?_ | refine inBlock_out rfl ?_ | refine LWp.seq ?_ | refine LWp.region ?_ | refine LWp.block ?_ | refine LWp.exit ?_ | refine LWp.ret ?_ | refine LWp.skip ?_ | refine LOps.valA ?_ | refine LOps.outA ?_ | refine LOps.whenA ?_ | refine LOps.pickA ?_ | refine LOps.storeA ?_)
    refine LWp.drawL [0, 1, 2, 4, 5, 6, 3, 7, 8, 9] (by rw [hP]; rfl) rfl ?_
    repeat (first | refine LRl.valH (LVal.load hD rfl rfl k3 rfl rfl) ?_ (fun _ hS => LVal.load hD rfl rfl (hS.box _ _ k3 (by first | exact id | (intro hx; rcases hx with hx | hx <;> omega) | (intro hx; have hx2 : _ = _ := hx; omega) | (intro hx; exact absurd hx.1 (by decide)))) rfl rfl) | refine LRl.valH (LVal.load hD rfl rfl k4 rfl rfl) ?_ (fun _ hS => LVal.load hD rfl rfl (hS.box _ _ k4 (by first | exact id | (intro hx; rcases hx with hx | hx <;> omega) | (intro hx; have hx2 : _ = _ := hx; omega) | (intro hx; exact absurd hx.1 (by decide)))) rfl rfl) | refine LRl.nil ?_ | refine LRl.valA ?_ | refine LRl.outA ?_ | refine LRl.whenA ?_ | refine LRl.pickA ?_)
    refine LRl.act (LDo.push (c := keyL l[j]) hD rfl rfl rfl rfl rfl rfl rfl rfl rfl rfl m1 own1 (by omega)) rfl rfl rfl rfl (by rintro _ _ ⟨_, _, _, hup, _⟩; exact .inl (.upto hup)) ?_
    rintro _ S2 ⟨o1', rfl, own1', hup1, hno1⟩
    have own2' : Owned S2 3 j o2 := own2.upto hup1 hne
    have hne' : ∀ b, o1' = .own b → o2 ≠ .own b := fun b hb e => by
      rcases hno1 b hb with h1 | h1
      · exact hne b h1 e
      · subst e
        have : S1.row b = some (3, j) := own2
        rw [h1.row] at this; cases this
    repeat (first | refine LRl.nil ?_ | refine LRl.valA ?_ | refine LRl.outA ?_ | refine LRl.whenA ?_ | refine LRl.pickA ?_)
    refine LRl.act (LDo.push (c := kidI l[j]) hD rfl rfl rfl rfl rfl rfl rfl rfl rfl rfl m2 own2' (by omega)) rfl rfl rfl rfl (by rintro _ _ ⟨_, _, _, hup, _⟩; exact .inl (.upto hup)) ?_
    rintro _ S3 ⟨o2', rfl, own2'', hup2, hno2⟩
    have out1' := out1.next hle hno1
    have out2' := out2.next (hle.upto hup1 out1) hno2
    have own1'' : Owned S3 5 (j + 1) o1' := own1'.upto hup2 (fun b hb e => hne' b e hb)
    have hne2 : ∀ b, o1' = .own b → o2' ≠ .own b := fun b hb e => by
      rcases hno2 b e with h1 | h1
      · exact hne' b hb h1
      · subst hb
        have : S2.row b = some (5, j + 1) := own1'
        rw [h1.row] at this; cases this
    have k33 := hup2.box _ _ (hup1.box _ _ k3)
    have k43 := hup2.box _ _ (hup1.box _ _ k4)
    have hle3 := (hle.upto hup1 out1).upto hup2 out2
    repeat (first | refine LRl.nil ?_ | refine LRl.valA ?_ | refine LRl.outA ?_ | refine LRl.whenA ?_ | refine LRl.pickA ?_)
    refine LRl.act0 (LDo.store hD rfl rfl k33 rfl rfl rfl rfl) rfl rfl rfl (fun _ _ _ => .inr rfl) ?_
    rintro _ _ ⟨rfl, rfl⟩
    repeat (first | refine LRl.nil ?_ | refine LRl.valA ?_ | refine LRl.outA ?_ | refine LRl.whenA ?_ | refine LRl.pickA ?_)
    refine LRl.act0 (LDo.store hD rfl rfl ((box_set_ne _ _ m4_3).trans k43) rfl rfl rfl rfl) rfl rfl rfl (fun _ _ _ => .inr rfl) ?_
    rintro _ _ ⟨rfl, rfl⟩
    repeat (first | refine LRl.nil ?_ | refine LRl.valA ?_ | refine LRl.outA ?_ | refine LRl.whenA ?_ | refine LRl.pickA ?_)
    have hS4 : ∃ S4, S4 = (S3.setBox b3 (splice [.sl o1 ((l.take j).map keyL)] 0 [.sl o1' ((l.take j).map keyL ++ [keyL l[j]])])).setBox b4 (splice [.sl o2 ((l.take j).map kidI)] 0 [.sl o2' ((l.take j).map kidI ++ [kidI l[j]])]) := ⟨_, rfl⟩
    obtain ⟨S4, hS4⟩ := hS4
    have q3 : S4.box b3 = some [.sl o1' ((l.take (j + 1)).map keyL)] := by rw [hS4, e1]; exact (box_set_ne _ _ n3_4).trans ((box_set _ _ _).trans rfl)
    have q4 : S4.box b4 = some [.sl o2' ((l.take (j + 1)).map kidI)] := by rw [hS4, e2]; exact (box_set _ _ _).trans rfl
    have qle : S.le S4 := by rw [hS4]; exact (hle3.setBox s3 _).setBox s4 _
    have qo1 : Owned S4 5 (j + 1) o1' := by rw [hS4]; exact own1''.setBox.setBox
    have qo2 : Owned S4 3 (j + 1) o2' := by rw [hS4]; exact own2''.setBox.setBox
    refine inBlock_normal ?_
    refine andThen_normal ?_
    refine LWp.gen (fun S5 => S5 = S4) hS4.symm ?_
    rintro _ rfl
    clear hS4 hle3 own1'' own2'' k33 k43 own1' own2' hup1 hup2
    have ew : IntKind.i64.wrap ((l[j].1 : Nat) : Int) = ((l[j].1 : Nat) : Int) := wrap64_small (by have := ks.lt _ (List.getElem_mem hlt); omega)
    have hlt256 := ks.lt _ (List.getElem_mem hlt)
    repeat (first | refine LOps.valH (r := .one (iv (l[j].1 : Nat))) (LVal.to (LVal.convInt hD rfl rfl rfl rfl rfl) (by rw [ew])) ?_ | refine LOps.valH (r := .one (iv (((l[j].1 : Nat) : Int) + 1))) (LVal.add64 rfl rfl rfl (by omega)) ?_ | refine LOps.nil ?_ | refine andThen_normal ?_ | refine andThen_exit ?_ | refine andThen_ret ?_ | refine inBlock_normal ?_ | refine inBlock_ret ?_ | refine inBlock_here ?_ | refine inBlock_out rfl ?_ | refine LWp.seq ?_ | refine LWp.region ?_ | refine LWp.block ?_ | refine LWp.exit ?_ | refine LWp.ret ?_ | refine LWp.skip ?_ | refine LOps.valA ?_ | refine LOps.outA ?_ | refine LOps.whenA ?_ | refine LOps.pickA ?_ | refine LOps.storeA ?_)
    refine LOps.do (LDo.callX (ht.frm _ (((l[j].1 : Nat) : Int) + 1) (ht.le _ _ hS qle)) (by rw [hP]; exact Try.func15)) rfl rfl rfl ?_
    rintro _ _ ⟨rfl, rfl⟩
    rw [fromL_next ks hlt]
    have e0 : ∃ (x : Int) (y : Int) (z : Bool), fromI l[j + 1]? = .tup [.one (uv x), .one (iv y), .one (bv z)] ∧ (z = true → ∃ h : j + 1 < l.length, x = ((l[j + 1].1 : Nat) : Int) ∧ y = l[j + 1].2) ∧ (z = false → l.length = j + 1) := by
      rcases Nat.lt_or_ge (j + 1) l.length with h | h
      · exact ⟨_, _, true, by rw [List.getElem?_eq_getElem h]; rfl, fun _ => ⟨h, rfl, rfl⟩, fun e => (by cases e)⟩
      · exact ⟨0, 0, false, by rw [List.getElem?_eq_none (by omega)]; rfl, fun e => (by cases e), fun _ => by omega⟩
    obtain ⟨x0, y0, z0, e0, t0, f0⟩ := e0
    rw [e0]
    repeat (first | refine LOps.nil ?_ | refine andThen_normal ?_ | refine andThen_exit ?_ | refine andThen_ret ?_ | refine inBlock_normal ?_ | refine inBlock_ret ?_ | refine inBlock_here ?_ | refine inBlock_out rfl ?_ | refine LWp.seq ?_ | refine LWp.region ?_ | refine LWp.block ?_ | refine LWp.exit ?_ | refine LWp.ret ?_ | refine LWp.skip ?_ | refine LOps.valA ?_ | refine LOps.outA ?_ | refine LOps.whenA ?_ | refine LOps.pickA ?_ | refine LOps.storeA ?_)
    exact ⟨l.length - (j + 1), by omega, _, j + 1, o1', o2', x0, y0, z0, hlt, rfl, qle, q3, q4, qo1, qo2, hne2, out1', out2', t0, f0, holds.over ⟨rfl, rfl, rfl, rfl, rfl, rfl, trivial⟩⟩
  · have h : z = false := h
    have hjl := ff h
    have e3 : l.take j = l := List.take_of_length_le (by omega)
    rw [e3] at k3 k4
    repeat (first | refine LOps.nil ?_ | refine andThen_normal ?_ | refine andThen_exit ?_ | refine andThen_ret ?_ | refine inBlock_normal ?_ | refine inBlock_ret ?_ | refine inBlock_here ?_ | refine inBlock_out rfl ?_ | refine LWp.seq ?_ | refine LWp.region ?_ | refine LWp.block ?_ | refine LWp.exit ?_ | refine LWp.ret ?_ | refine LWp.skip ?_ | refine LOps.valA ?_ | refine LOps.outA ?_ | refine LOps.whenA ?_ | refine LOps.pickA ?_ | refine LOps.storeA ?_)
    refine LOps.shBox k3 ?_
    refine LOps.shBox ((box_set_ne _ _ m4_3).trans k4) ?_
    have q3 : ((S1.setBox b3 ([.sl o1 (l.map keyL)].map shLV)).setBox b4 ([.sl o2 (l.map kidI)].map shLV)).box b3 = some [.sl .sh (l.map keyL)] := (box_set_ne _ _ n3_4).trans ((box_set _ _ _).trans rfl)
    have q4 : ((S1.setBox b3 ([.sl o1 (l.map keyL)].map shLV)).setBox b4 ([.sl o2 (l.map kidI)].map shLV)).box b4 = some [.sl .sh (l.map kidI)] := (box_set _ _ _).trans rfl
    have qle := (hle.setBox s3 ([.sl o1 (l.map keyL)].map shLV)).setBox s4 ([.sl o2 (l.map kidI)].map shLV)
    generalize (S1.setBox b3 ([.sl o1 (l.map keyL)].map shLV)).setBox b4 ([.sl o2 (l.map kidI)].map shLV) = S2 at *
    repeat (first | refine LOps.val (LVal.makeFunc (vs := [.pointer (some ⟨b3, 0, none⟩), .pointer (some ⟨b4, 0, none⟩)]) rfl rfl) rfl rfl rfl ?_ | refine LOps.nil ?_ | refine andThen_normal ?_ | refine andThen_exit ?_ | refine andThen_ret ?_ | refine inBlock_normal ?_ | refine inBlock_ret ?_ | refine inBlock_here ?_ | refine inBlock_out rfl ?_ | refine LWp.seq ?_ | refine LWp.region ?_ | refine LWp.block ?_ | refine LWp.exit ?_ | refine LWp.ret ?_ | refine LWp.skip ?_ | refine LOps.valA ?_ | refine LOps.outA ?_ | refine LOps.whenA ?_ | refine LOps.pickA ?_ | refine LOps.storeA ?_)
    exact ⟨_, LRes.one rfl, b3, b4, rfl, qle, s3, s4, q3, q4⟩

def yieldsI (l : Kv Int) : List (List TV) := l.map fun p => [.one (uv (p.1 : Nat)), .one (iv p.2)]
set_option maxHeartbeats 4000000 in
theorem allI_iter {G : Ctx} (hP : G.P = Try.prog) (l : Kv Int) (hlen : l.length ≤ 256) (a b : Nat) :
    LIter G 32 #[.pointer (some ⟨a, 0, none⟩), .pointer (some ⟨b, 0, none⟩)] (tabI a b l) (yieldsI l) := by
  intro lp I Ix S hI hIx hC hY h0
  have hD : TabOK G.P D := by rw [hP]; exact hD0
  obtain ⟨ha, hb⟩ := hC 0 S h0
  have hyl : (yieldsI l).length = l.length := by simp [yieldsI]
  rw [hyl]
  refine LCalls.enter (fn := Try.f32) (by rw [hP]; exact Try.func32) rfl rfl ?_
  repeat (first | refine LOps.nil ?_ | refine andThen_normal ?_ | refine andThen_exit ?_ | refine andThen_ret ?_ | refine inBlock_normal ?_ | refine inBlock_ret ?_ | refine inBlock_here ?_ | refine inBlock_out rfl ?_ | refine LWp.seq ?_ | refine LWp.region ?_ | refine LWp.block ?_ | refine LWp.exit ?_ | refine LWp.ret ?_ | refine LWp.skip ?_ | refine LOps.valA ?_ | refine LOps.outA ?_ | refine LOps.whenA ?_ | refine LOps.pickA ?_ | refine LOps.storeA ?_)
  refine LWp.loop (fun m T S' => ∃ T' k, k ≤ l.length ∧ m = l.length - k ∧ I k S' ∧ T = over T' [(0, .one (.v (.func (.yield lp) #[] #[]))), (1, ptr a), (2, ptr b), (6, .one (.sl .sh (l.map keyL))), (7, .one (iv (l.length : Nat))), (8, .one (iv (k : Nat)))]) l.length ?_ ?_
  · exact ⟨_, 0, by omega, rfl, h0, holds.over ⟨rfl, rfl, rfl, rfl, by show TV.one (iv (((l.map keyL).length : Nat) : Int)) = _; rw [List.length_map], rfl, trivial⟩⟩
  clear ha hb
  rintro m T S' ⟨T', k, hk, rfl, hIk, rfl⟩
  obtain ⟨ha, hb⟩ := hC k S' hIk
  repeat (first | refine LOps.nil ?_ | refine andThen_normal ?_ | refine andThen_exit ?_ | refine andThen_ret ?_ | refine inBlock_normal ?_ | refine inBlock_ret ?_ | refine inBlock_here ?_ | refine inBlock_out rfl ?_ | refine LWp.seq ?_ | refine LWp.region ?_ | refine LWp.block ?_ | refine LWp.exit ?_ | refine LWp.ret ?_ | refine LWp.skip ?_ | refine LOps.valA ?_ | refine LOps.outA ?_ | refine LOps.whenA ?_ | refine LOps.pickA ?_ | refine LOps.storeA ?_)
  refine LWp.cond rfl (fun h => ?_) (fun h => ?_)
  · have hlt : k < l.length := by simpa using h
    have hxk : (yieldsI l)[k]? = some [.one (uv (l[k].1 : Nat)), .one (iv l[k].2)] := by simp [yieldsI, hlt]
    repeat (first | refine LOps.nil ?_ | refine andThen_normal ?_ | refine andThen_exit ?_ | refine andThen_ret ?_ | refine inBlock_normal ?_ | refine inBlock_ret ?_ | refine inBlock_here ?_ | refine inBlock_out rfl ?_ | refine LWp.seq ?_ | refine LWp.region ?_ | refine LWp.block ?_ | refine LWp.exit ?_ | refine LWp.ret ?_ | refine LWp.skip ?_ | refine LOps.valA ?_ | refine LOps.outA ?_ | refine LOps.whenA ?_ | refine LOps.pickA ?_ | refine LOps.storeA ?_)
    refine LOps.yield rfl rfl rfl rfl rfl rfl (hY k _ S' hxk hIk) ?_
    rintro r S1 hcase
    repeat (first | refine LOps.nil ?_ | refine andThen_normal ?_ | refine andThen_exit ?_ | refine andThen_ret ?_ | refine inBlock_normal ?_ | refine inBlock_ret ?_ | refine inBlock_here ?_ | refine inBlock_out rfl ?_ | refine LWp.seq ?_ | refine LWp.region ?_ | refine LWp.block ?_ | refine LWp.exit ?_ | refine LWp.ret ?_ | refine LWp.skip ?_ | refine LOps.valA ?_ | refine LOps.outA ?_ | refine LOps.whenA ?_ | refine LOps.pickA ?_ | refine LOps.storeA ?_)
    refine LWp.cond rfl (fun h => ?_) (fun h => ?_)
    · repeat (first | refine LOps.nil ?_ | refine andThen_normal ?_ | refine andThen_exit ?_ | refine andThen_ret ?_ | refine inBlock_normal ?_ | refine inBlock_ret ?_ | refine inBlock_here ?_ | refine inBlock_out rfl ?_ | refine LWp.seq ?_ | refine LWp.region ?_ | refine LWp.block ?_ | refine LWp.exit ?_ | refine LWp.ret ?_ | refine LWp.skip ?_ | refine LOps.valA ?_ | refine LOps.outA ?_ | refine LOps.whenA ?_ | refine LOps.pickA ?_ | refine LOps.storeA ?_)
      refine ⟨_, LRes.none rfl, .inr ⟨k + 1, by omega, ?_⟩⟩
      rcases hcase with ⟨rfl, _⟩ | ⟨_, h2⟩
      · simp at h
      · exact h2
    · repeat (first | refine LOps.nil ?_ | refine andThen_normal ?_ | refine andThen_exit ?_ | refine andThen_ret ?_ | refine inBlock_normal ?_ | refine inBlock_ret ?_ | refine inBlock_here ?_ | refine inBlock_out rfl ?_ | refine LWp.seq ?_ | refine LWp.region ?_ | refine LWp.block ?_ | refine LWp.exit ?_ | refine LWp.ret ?_ | refine LWp.skip ?_ | refine LOps.valA ?_ | refine LOps.outA ?_ | refine LOps.whenA ?_ | refine LOps.pickA ?_ | refine LOps.storeA ?_)
      refine ⟨l.length - (k + 1), by omega, _, k + 1, by omega, rfl, ?_, holds.over ⟨rfl, rfl, rfl, rfl, rfl, rfl, trivial⟩⟩
      rcases hcase with ⟨_, h2⟩ | ⟨rfl, _⟩
      · exact h2
      · simp at h
  · have hge : l.length ≤ k := by simpa using h
    obtain rfl : k = l.length := by omega
    repeat (first | refine LOps.nil ?_ | refine andThen_normal ?_ | refine andThen_exit ?_ | refine andThen_ret ?_ | refine inBlock_normal ?_ | refine inBlock_ret ?_ | refine inBlock_here ?_ | refine inBlock_out rfl ?_ | refine LWp.seq ?_ | refine LWp.region ?_ | refine LWp.block ?_ | refine LWp.exit ?_ | refine LWp.ret ?_ | refine LWp.skip ?_ | refine LOps.valA ?_ | refine LOps.outA ?_ | refine LOps.whenA ?_ | refine LOps.pickA ?_ | refine LOps.storeA ?_)
    exact ⟨_, LRes.none rfl, .inl hIk⟩
end Go.Proofs.Ytinbibeapooghaa.LF
