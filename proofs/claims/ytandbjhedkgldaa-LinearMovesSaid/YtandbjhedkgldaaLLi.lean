/- linear.Some's closure: the walk. -/
import Derived.Test.YtandbjhedkgldaaLLh
namespace Go.Proofs.Ytandbjhedkgldaa.LF
open Go.RowKit H
set_option linter.unusedVariables false
attribute [local irreducible] andThen inBlock LWp LOps LCalls

abbrev tryV (b7 b13 : Nat) : Value := .func (.func 38) #[] #[.pointer (some ⟨b7, 0, none⟩), .pointer (some ⟨b13, 0, none⟩)]
/-- What the closure looks at. -/
structure TryAt (S : LS) (all : List One) (b7 b13 : Nat) (X : LV) : Prop where
  x : S.box b7 = some [X]
  f : S.box b13 = some [.v (tryV b7 b13)]
  p : PtAt oneL 13 S X all
theorem TryAt.le {S S' : LS} {all : List One} {b7 b13 : Nat} {X : LV} (h : TryAt S all b7 b13 X) (k : S.le S') : TryAt S' all b7 b13 X := ⟨k.box _ _ h.x, k.box _ _ h.f, h.p.keep fun b cs _ hb => k.box b cs hb⟩

set_option maxHeartbeats 16000000 in
set_option maxRecDepth 10000 in
theorem try_L {G : Ctx} (hP : G.P = Try.prog) (all : List One) (hal : all.length ≤ 7) (hah : ∀ x ∈ all, x.ahead < 128) (b7 b13 : Nat) (X : LV) : ∀ (n t : Nat) (at_ : List Pr), t < 128 → cnt all.length t < n → at_.length + 8 * n ≤ 2000 → ∀ S, TryAt S all b7 b13 X →
    LCalls G 38 [.one (.v (.int .u64 (t : Nat))), .one (.sl .sh (at_.map prL)), ptr b7, ptr b13] (fun r S' => r = .one (bv (tryS all n t at_)) ∧ S.le S') S
  | 0, _, _, _, h, _, _, _ => absurd h (by omega)
  | n + 1, t, at_, ht, hc, hlen, S, hS => by
    have ih := try_L hP all hal hah b7 b13 X n
    have hD : TabOK G.P D := by rw [hP]; exact hD0
    have ea : EqTy G.P D 38 := by rw [hP]; exact H.eqAns
    have hx := hS.x
    refine LCalls.enter (fn := Try.f38) (by rw [hP]; exact Try.func38) rfl rfl ?_
    repeat (first | refine LOps.valH (LVal.load hD rfl rfl hx rfl rfl) ?_ | refine LOps.valH (LVal.lenPt hD rfl rfl hS.p rfl rfl) ?_ | refine LOps.nil ?_ | refine andThen_normal ?_ | refine andThen_exit ?_ | refine andThen_ret ?_ | refine inBlock_normal ?_ | refine inBlock_ret ?_ | refine inBlock_here ?_ | refine inBlock_out rfl ?_ | refine LWp.seq ?_ | refine LWp.region ?_ | refine LWp.block ?_ | refine LWp.exit ?_ | refine LWp.ret ?_ | refine LWp.skip ?_ | refine LOps.valA ?_ | refine LOps.outA ?_ | refine LOps.whenA ?_ | refine LOps.pickA ?_ | refine LOps.storeA ?_)
    refine LWp.loop (fun k T S' => ∃ (T' : Nat → TV) (j : Nat) (L : Bool), j ≤ all.length ∧ k = all.length - j ∧ S.le S' ∧ tryS all (n + 1) t at_ = goS (tryS all n) t at_ j (all.drop j) L ∧
      T = over T' [(0, .one (.v (.int .u64 (t : Nat)))), (1, .one (.sl .sh (at_.map prL))), (2, ptr b7), (3, ptr b13), (7, .one (bv L)), (12, .one X), (13, .one (iv (all.length : Nat))), (14, .one (iv j))]) all.length ?_ ?_
    · exact ⟨_, 0, false, by omega, by omega, .refl _, rfl, holds.over ⟨rfl, rfl, rfl, rfl, rfl, rfl, rfl, rfl, trivial⟩⟩
    rintro k T S' ⟨T', j, L, hj, rfl, hle, hsp, rfl⟩
    repeat (first | refine LOps.nil ?_ | refine andThen_normal ?_ | refine andThen_exit ?_ | refine andThen_ret ?_ | refine inBlock_normal ?_ | refine inBlock_ret ?_ | refine inBlock_here ?_ | refine inBlock_out rfl ?_ | refine LWp.seq ?_ | refine LWp.region ?_ | refine LWp.block ?_ | refine LWp.exit ?_ | refine LWp.ret ?_ | refine LWp.skip ?_ | refine LOps.valA ?_ | refine LOps.outA ?_ | refine LOps.whenA ?_ | refine LOps.pickA ?_ | refine LOps.storeA ?_)
    refine LWp.cond rfl (fun h => ?_) (fun h => ?_)
    · have hlt : j < all.length := by simpa using h
      rw [List.drop_eq_getElem_cons hlt] at hsp
      have hmem := List.getElem_mem hlt
      have hax := hah _ hmem
      obtain ⟨r, off, c, A, B, rfl, hb, ho, hlc, hcz⟩ := (hS.le hle).p.row_of (by omega)
      repeat (first | refine LOps.valH (LVal.indexR hD rfl rfl rfl rfl rfl rfl (by omega) (by omega)) ?_ | refine LOps.valH (LVal.load hD rfl rfl hb rfl (rdOne ho hlt)) ?_ | refine LOps.nil ?_ | refine andThen_normal ?_ | refine andThen_exit ?_ | refine andThen_ret ?_ | refine inBlock_normal ?_ | refine inBlock_ret ?_ | refine inBlock_here ?_ | refine inBlock_out rfl ?_ | refine LWp.seq ?_ | refine LWp.region ?_ | refine LWp.block ?_ | refine LWp.exit ?_ | refine LWp.ret ?_ | refine LWp.skip ?_ | refine LOps.valA ?_ | refine LOps.outA ?_ | refine LOps.whenA ?_ | refine LOps.pickA ?_ | refine LOps.storeA ?_)
      refine LOps.do (LDo.alloc hD rfl rfl rfl) rfl rfl rfl ?_
      rintro _ _ ⟨b9, hb9, rfl, rfl⟩
      have s9 := hle.none hb9
      have e5 := bit_at t ht j (by omega)
      repeat (first | refine LOps.valH (LVal.shrN (m := t) (n := j) rfl rfl rfl rfl (by omega) rfl) ?_ | refine LOps.nil ?_ | refine andThen_normal ?_ | refine andThen_exit ?_ | refine andThen_ret ?_ | refine inBlock_normal ?_ | refine inBlock_ret ?_ | refine inBlock_here ?_ | refine inBlock_out rfl ?_ | refine LWp.seq ?_ | refine LWp.region ?_ | refine LWp.block ?_ | refine LWp.exit ?_ | refine LWp.ret ?_ | refine LWp.skip ?_ | refine LOps.valA ?_ | refine LOps.outA ?_ | refine LOps.whenA ?_ | refine LOps.pickA ?_ | refine LOps.storeA ?_)
      refine LWp.gen (fun S2 => S.le S2 ∧ S2.box b9 = some (oneL all[j])) ⟨(hle.newBox hb9 _).setBox s9 _, box_set _ _ _⟩ ?_
      clear hle hb hb9
      rintro S2 ⟨hle, k9⟩
      have kx : ∀ x, x = all[j] → oneL all[j] = oneL x := fun x e => by rw [e]
      refine LWp.cond rfl (fun h => ?_) (fun h => ?_)
      · have h' : t.testBit j = true := by rw [← e5]; exact h
        rw [goS, if_pos h'] at hsp
        repeat (first | refine LOps.nil ?_ | refine andThen_normal ?_ | refine andThen_exit ?_ | refine andThen_ret ?_ | refine inBlock_normal ?_ | refine inBlock_ret ?_ | refine inBlock_here ?_ | refine inBlock_out rfl ?_ | refine LWp.seq ?_ | refine LWp.region ?_ | refine LWp.block ?_ | refine LWp.exit ?_ | refine LWp.ret ?_ | refine LWp.skip ?_ | refine LOps.valA ?_ | refine LOps.outA ?_ | refine LOps.whenA ?_ | refine LOps.pickA ?_ | refine LOps.storeA ?_)
        exact ⟨all.length - (j + 1), by omega, _, j + 1, L, by omega, rfl, hle, hsp, holds.over ⟨rfl, rfl, rfl, rfl, rfl, rfl, rfl, rfl, trivial⟩⟩
      have htb : t.testBit j = false := by rw [← e5]; exact h
      rw [goS, if_neg (by rw [htb]; decide)] at hsp
      clear kx
      generalize hxx : all[j] = x at *
      have e7 := bit_not x.ahead hax t ht
      repeat (first | refine LOps.nil ?_ | refine andThen_normal ?_ | refine andThen_exit ?_ | refine andThen_ret ?_ | refine inBlock_normal ?_ | refine inBlock_ret ?_ | refine inBlock_here ?_ | refine inBlock_out rfl ?_ | refine LWp.seq ?_ | refine LWp.region ?_ | refine LWp.block ?_ | refine LWp.exit ?_ | refine LWp.ret ?_ | refine LWp.skip ?_ | refine LOps.valA ?_ | refine LOps.outA ?_ | refine LOps.whenA ?_ | refine LOps.pickA ?_ | refine LOps.storeA ?_)
      refine LWp.cond rfl (fun h => ?_) (fun h => ?_)
      · have h' : blocked x.ahead t = true := by rw [← e7]; exact h
        rw [if_pos h'] at hsp
        repeat (first | refine LOps.nil ?_ | refine andThen_normal ?_ | refine andThen_exit ?_ | refine andThen_ret ?_ | refine inBlock_normal ?_ | refine inBlock_ret ?_ | refine inBlock_here ?_ | refine inBlock_out rfl ?_ | refine LWp.seq ?_ | refine LWp.region ?_ | refine LWp.block ?_ | refine LWp.exit ?_ | refine LWp.ret ?_ | refine LWp.skip ?_ | refine LOps.valA ?_ | refine LOps.outA ?_ | refine LOps.whenA ?_ | refine LOps.pickA ?_ | refine LOps.storeA ?_)
        exact ⟨all.length - (j + 1), by omega, _, j + 1, L || x.ended, by omega, rfl, hle, hsp, holds.over ⟨rfl, rfl, rfl, rfl, rfl, rfl, rfl, rfl, trivial⟩⟩
      have hbl : blocked x.ahead t = false := by rw [← e7]; exact h
      rw [if_neg (by rw [hbl]; decide)] at hsp
      repeat (first | refine LOps.nil ?_ | refine andThen_normal ?_ | refine andThen_exit ?_ | refine andThen_ret ?_ | refine inBlock_normal ?_ | refine inBlock_ret ?_ | refine inBlock_here ?_ | refine inBlock_out rfl ?_ | refine LWp.seq ?_ | refine LWp.region ?_ | refine LWp.block ?_ | refine LWp.exit ?_ | refine LWp.ret ?_ | refine LWp.skip ?_ | refine LOps.valA ?_ | refine LOps.outA ?_ | refine LOps.whenA ?_ | refine LOps.pickA ?_ | refine LOps.storeA ?_)
      refine LOps.do (LDo.callX (new_L hP .sh at_ (by omega) S2) (by rw [hP]; exact Try.func39)) rfl rfl rfl ?_
      rintro _ S3 ⟨b, Y, rfl, m, g1, g2, g3⟩
      have nw : NewO S2 S3 b Y := ⟨g1, g2, g3⟩
      clear g1 g2 g3
      have q9 := nw.le.box _ _ k9
      have c1 := cnt_or all.length (by omega) t ht j hlt htb
      have t2 := or_lt t ht j (by omega)
      have eo := bit_or t ht j (by omega)
      repeat (first | refine LOps.nil ?_ | refine andThen_normal ?_ | refine andThen_exit ?_ | refine andThen_ret ?_ | refine inBlock_normal ?_ | refine inBlock_ret ?_ | refine inBlock_here ?_ | refine inBlock_out rfl ?_ | refine LWp.seq ?_ | refine LWp.region ?_ | refine LWp.block ?_ | refine LWp.exit ?_ | refine LWp.ret ?_ | refine LWp.skip ?_ | refine LOps.val (LVal.call rfl rfl (by rw [hP]; exact Try.func40) rfl (by decide) (idle_F hP x.a)) rfl rfl rfl ?_ | refine LOps.whenC (LVal.call rfl rfl (by rw [hP]; exact Try.func40) rfl (by decide) (idle_F hP x.a)) ?_ | refine LOps.valA ?_ | refine LOps.outA ?_ | refine LOps.whenA ?_ | refine LOps.pickA ?_ | refine LOps.storeA ?_)
      refine LWp.cond rfl (fun h => ?_) (fun h => ?_)
      · rw [if_pos (show (x.ended && idleS x.a) = true from h)] at hsp
        rw [hsp]
        have hS4 := hS.le (hle.trans nw.le)
        have kf := hS4.f
        repeat (first | refine LOps.nil ?_ | refine andThen_normal ?_ | refine andThen_exit ?_ | refine andThen_ret ?_ | refine inBlock_normal ?_ | refine inBlock_ret ?_ | refine inBlock_here ?_ | refine inBlock_out rfl ?_ | refine LWp.seq ?_ | refine LWp.region ?_ | refine LWp.block ?_ | refine LWp.exit ?_ | refine LWp.ret ?_ | refine LWp.skip ?_)
        refine LWp.drawL [0, 1, 2, 3, 4, 5, 6, 7] (by rw [hP]; rfl) rfl ?_
        repeat (first | refine LRl.val (fun _ hS2 => LVal.load hD rfl rfl (hS2.box _ _ kf id) rfl rfl) rfl rfl rfl ?_ | refine LRl.val (fun _ _ => LVal.shlU (m := 1) (c := j) rfl rfl rfl rfl (by omega)) rfl rfl rfl ?_ | refine LRl.val (r := .one (.v (.int .u64 ((t ||| 2 ^ j : Nat) : Int)))) (fun _ _ => LVal.to (LVal.binOp hD rfl rfl rfl rfl) (by exact congrArg (fun z => TV.one (.v (.int .u64 z))) eo)) rfl rfl rfl ?_ | refine LRl.nil ?_ | refine LRl.valA ?_ | refine LRl.outA ?_ | refine LRl.whenA ?_ | refine LRl.pickA ?_)
        refine LRl.act (LDo.callV (cs := [.pointer (some ⟨b7, 0, none⟩), .pointer (some ⟨b13, 0, none⟩)]) rfl rfl rfl rfl (by rw [hP]; exact Try.func38) rfl (by decide) (ih (t ||| 2 ^ j) at_ t2 (by omega) (by omega) _ hS4)) rfl rfl rfl rfl (by rintro _ S5 ⟨_, h5⟩; exact .inl (.of_le h5)) ?_
        rintro _ S5 ⟨rfl, h5⟩
        repeat (first | refine LRl.nil ?_ | refine LRl.valA ?_ | refine LRl.outA ?_ | refine LRl.whenA ?_ | refine LRl.pickA ?_)
        refine andThen_normal ?_
        repeat (first | refine LOps.nil ?_ | refine andThen_normal ?_ | refine andThen_exit ?_ | refine andThen_ret ?_ | refine inBlock_normal ?_ | refine inBlock_ret ?_ | refine inBlock_here ?_ | refine inBlock_out rfl ?_ | refine LWp.seq ?_ | refine LWp.region ?_ | refine LWp.block ?_ | refine LWp.exit ?_ | refine LWp.ret ?_ | refine LWp.skip ?_ | refine LOps.valA ?_ | refine LOps.outA ?_ | refine LOps.whenA ?_ | refine LOps.pickA ?_ | refine LOps.storeA ?_)
        exact ⟨_, LRes.one rfl, rfl, hle.trans (nw.le.trans h5)⟩
      rw [if_neg (by rw [show (x.ended && idleS x.a) = false from h]; decide)] at hsp
      repeat (first | refine LOps.nil ?_ | refine andThen_normal ?_ | refine andThen_exit ?_ | refine andThen_ret ?_ | refine inBlock_normal ?_ | refine inBlock_ret ?_ | refine inBlock_here ?_ | refine inBlock_out rfl ?_ | refine LWp.seq ?_ | refine LWp.region ?_ | refine LWp.block ?_ | refine LWp.exit ?_ | refine LWp.ret ?_ | refine LWp.skip ?_ | refine LOps.valA ?_ | refine LOps.outA ?_ | refine LOps.whenA ?_ | refine LOps.pickA ?_ | refine LOps.storeA ?_)
      have hnp := newP_length at_
      have hdl := doM_length (newP at_) x.op
      refine LOps.do (LDo.callX (do_L hP (newP at_) (by omega) x.op b Y _ m) (by rw [hP]; exact Try.func41)) rfl rfl rfl ?_
      rintro _ S4 ⟨rfl, Y2, m, mv⟩
      replace nw := nw.mv mv
      clear mv q9
      have q9 := nw.le.box _ _ k9
      refine LOps.do (LDo.alloc hD rfl rfl rfl) rfl rfl rfl ?_
      rintro _ _ ⟨b11, hb11, rfl, rfl⟩
      have n911 := fresh_ne hb11 q9
      have n119 := n911.symm
      have hle8 : ∀ z cs, S4.le ((S4.newBox b11 z).setBox b11 cs) := fun z cs => (LS.le.newBox (.refl _) hb11 z).setBox hb11.box cs
      repeat (first | refine LOps.nil ?_ | refine andThen_normal ?_ | refine andThen_exit ?_ | refine andThen_ret ?_ | refine inBlock_normal ?_ | refine inBlock_ret ?_ | refine inBlock_here ?_ | refine inBlock_out rfl ?_ | refine LWp.seq ?_ | refine LWp.region ?_ | refine LWp.block ?_ | refine LWp.exit ?_ | refine LWp.ret ?_ | refine LWp.skip ?_ | refine LOps.valA ?_ | refine LOps.outA ?_ | refine LOps.whenA ?_ | refine LOps.pickA ?_ | refine LOps.storeA ?_)
      refine LWp.gen (fun S5 => NewO S2 S5 b Y2 ∧ OM S5 b Y2 (doM (newP at_) x.op)) ⟨nw.le2 (hle8 _ _), m.le (hle8 _ _)⟩ ?_
      clear nw m hle8 hb11 q9
      rintro S5 ⟨nw, m⟩
      refine LWp.cond rfl (fun h => ?_) (fun h => ?_)
      · have h' : (x.ended && !decide (doA (newP at_) x.op = x.a)) = true := by rw [← ans_eq]; exact h
        rw [if_pos h'] at hsp
        repeat (first | refine LOps.nil ?_ | refine andThen_normal ?_ | refine andThen_exit ?_ | refine andThen_ret ?_ | refine inBlock_normal ?_ | refine inBlock_ret ?_ | refine inBlock_here ?_ | refine inBlock_out rfl ?_ | refine LWp.seq ?_ | refine LWp.region ?_ | refine LWp.block ?_ | refine LWp.exit ?_ | refine LWp.ret ?_ | refine LWp.skip ?_ | refine LOps.valA ?_ | refine LOps.outA ?_ | refine LOps.whenA ?_ | refine LOps.pickA ?_ | refine LOps.storeA ?_)
        exact ⟨all.length - (j + 1), by omega, _, j + 1, L || x.ended, by omega, rfl, hle.trans nw.le, hsp, holds.over ⟨rfl, rfl, rfl, rfl, rfl, rfl, rfl, rfl, trivial⟩⟩
      have h' : (x.ended && !decide (doA (newP at_) x.op = x.a)) = false := by rw [← ans_eq]; exact h
      rw [if_neg (by rw [h']; decide)] at hsp
      have hS4 := hS.le (hle.trans nw.le)
      have kf := hS4.f
      repeat (first | refine LOps.nil ?_ | refine andThen_normal ?_ | refine andThen_exit ?_ | refine andThen_ret ?_ | refine inBlock_normal ?_ | refine inBlock_ret ?_ | refine inBlock_here ?_ | refine inBlock_out rfl ?_ | refine LWp.seq ?_ | refine LWp.region ?_ | refine LWp.block ?_ | refine LWp.exit ?_ | refine LWp.ret ?_ | refine LWp.skip ?_)
      refine LWp.drawL [0, 1, 2, 3, 4, 5, 6, 7] (by rw [hP]; rfl) rfl ?_
      repeat (first | refine LRl.val (fun _ hS2 => LVal.load hD rfl rfl (hS2.box _ _ kf id) rfl rfl) rfl rfl rfl ?_ | refine LRl.val (fun _ _ => LVal.shlU (m := 1) (c := j) rfl rfl rfl rfl (by omega)) rfl rfl rfl ?_ | refine LRl.val (r := .one (.v (.int .u64 ((t ||| 2 ^ j : Nat) : Int)))) (fun _ _ => LVal.to (LVal.binOp hD rfl rfl rfl rfl) (by exact congrArg (fun z => TV.one (.v (.int .u64 z))) eo)) rfl rfl rfl ?_ | refine LRl.nil ?_ | refine LRl.valA ?_ | refine LRl.outA ?_ | refine LRl.whenA ?_ | refine LRl.pickA ?_)
      refine LRl.val (fun S' hS => LDo.toVal (LDo.callX (allV_L hP _ (by omega) b Y2 S' (m.keepB fun c cs hc => hS.box c cs hc id)) (by rw [hP]; exact Try.func36))) rfl rfl rfl ?_
      refine LRl.act (LDo.callV (cs := [.pointer (some ⟨b7, 0, none⟩), .pointer (some ⟨b13, 0, none⟩)]) rfl rfl rfl rfl (by rw [hP]; exact Try.func38) rfl (by decide) (ih (t ||| 2 ^ j) (doM (newP at_) x.op) t2 (by omega) (by omega) _ hS4)) rfl rfl rfl rfl (by rintro _ S6 ⟨_, h5⟩; exact .inl (.of_le h5)) ?_
      rintro _ S6 ⟨rfl, h5⟩
      repeat (first | refine LRl.nil ?_ | refine LRl.valA ?_ | refine LRl.outA ?_ | refine LRl.whenA ?_ | refine LRl.pickA ?_)
      refine andThen_normal ?_
      repeat (first | refine LOps.nil ?_ | refine andThen_normal ?_ | refine andThen_exit ?_ | refine andThen_ret ?_ | refine inBlock_normal ?_ | refine inBlock_ret ?_ | refine inBlock_here ?_ | refine inBlock_out rfl ?_ | refine LWp.seq ?_ | refine LWp.region ?_ | refine LWp.block ?_ | refine LWp.exit ?_ | refine LWp.ret ?_ | refine LWp.skip ?_ | refine LOps.valA ?_ | refine LOps.outA ?_ | refine LOps.whenA ?_ | refine LOps.pickA ?_ | refine LOps.storeA ?_)
      refine LWp.cond rfl (fun h => ?_) (fun h => ?_)
      · rw [if_pos h] at hsp
        rw [hsp]
        repeat (first | refine LOps.nil ?_ | refine andThen_normal ?_ | refine andThen_exit ?_ | refine andThen_ret ?_ | refine inBlock_normal ?_ | refine inBlock_ret ?_ | refine inBlock_here ?_ | refine inBlock_out rfl ?_ | refine LWp.seq ?_ | refine LWp.region ?_ | refine LWp.block ?_ | refine LWp.exit ?_ | refine LWp.ret ?_ | refine LWp.skip ?_ | refine LOps.valA ?_ | refine LOps.outA ?_ | refine LOps.whenA ?_ | refine LOps.pickA ?_ | refine LOps.storeA ?_)
        exact ⟨_, LRes.one rfl, rfl, hle.trans (nw.le.trans h5)⟩
      · rw [if_neg (by rw [h]; decide)] at hsp
        repeat (first | refine LOps.nil ?_ | refine andThen_normal ?_ | refine andThen_exit ?_ | refine andThen_ret ?_ | refine inBlock_normal ?_ | refine inBlock_ret ?_ | refine inBlock_here ?_ | refine inBlock_out rfl ?_ | refine LWp.seq ?_ | refine LWp.region ?_ | refine LWp.block ?_ | refine LWp.exit ?_ | refine LWp.ret ?_ | refine LWp.skip ?_ | refine LOps.valA ?_ | refine LOps.outA ?_ | refine LOps.whenA ?_ | refine LOps.pickA ?_ | refine LOps.storeA ?_)
        exact ⟨all.length - (j + 1), by omega, _, j + 1, L || x.ended, by omega, rfl, hle.trans (nw.le.trans h5), hsp, holds.over ⟨rfl, rfl, rfl, rfl, rfl, rfl, rfl, rfl, trivial⟩⟩
    · have hge : j = all.length := by simp at h; omega
      subst hge
      repeat (first | refine LOps.nil ?_ | refine andThen_normal ?_ | refine andThen_exit ?_ | refine andThen_ret ?_ | refine inBlock_normal ?_ | refine inBlock_ret ?_ | refine inBlock_here ?_ | refine inBlock_out rfl ?_ | refine LWp.seq ?_ | refine LWp.region ?_ | refine LWp.block ?_ | refine LWp.exit ?_ | refine LWp.ret ?_ | refine LWp.skip ?_ | refine LOps.valA ?_ | refine LOps.outA ?_ | refine LOps.whenA ?_ | refine LOps.pickA ?_ | refine LOps.storeA ?_)
      refine ⟨_, LRes.one rfl, ?_, hle⟩
      rw [hsp, List.drop_length]; rfl
end Go.Proofs.Ytandbjhedkgldaa.LF
