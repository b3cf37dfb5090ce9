/- The node: Set, Drop, of children of type string. (Printed by gen_art.py.) -/
import Derived.Test.YtinbibeapooghaaLAgT
set_option linter.unusedVariables false
set_option linter.unusedSimpArgs false
namespace Go.Proofs.Ytinbibeapooghaa.LF
open Go.RowKit
set_option linter.unusedVariables false
attribute [local irreducible] andThen inBlock LWp LOps LCalls

/-- A node, while its count is written. -/
structure HalfT (S : LS) (F : Nat → Prop) (b k m : Nat) (l : Kv ByteArray) : Prop where
  ex : ∃ X Fs, S.box b = some [X, iv (k : Nat), iv (m : Nat)] ∧ ShT S Fs X k l ∧ ¬ Fs b ∧ ∀ c, F c ↔ c = b ∨ Fs c
theorem NodeT.half {S : LS} {F : Nat → Prop} {b k : Nat} {l : Kv ByteArray} (h : NodeT S F b k l) : HalfT S F b k l.length l := ⟨h.ex⟩
theorem HalfT.own {S : LS} {F : Nat → Prop} {b k m : Nat} {l : Kv ByteArray} (h : HalfT S F b k m l) : F b := by
  obtain ⟨X, Fs, _, _, _, h4⟩ := h.ex
  exact (h4 b).2 (.inl rfl)
/-- The count is written. -/
theorem HalfT.put {S : LS} {F : Nat → Prop} {b k m : Nat} {l : Kv ByteArray} (h : HalfT S F b k m l) {X : LV} (hb : S.box b = some [X, iv (k : Nat), iv (m : Nat)]) (m' : Nat) : HalfT (S.setBox b [X, iv (k : Nat), iv (m' : Nat)]) F b k m' l := by
  obtain ⟨X', Fs, h1, h2, h3, h4⟩ := h.ex
  rw [hb] at h1
  obtain rfl : X = X' := by simpa using h1
  exact ⟨X, Fs, box_set _ _ _, h2.keep fun c cs hc hcs => (box_set_ne _ _ fun e => h3 (by rw [← e]; exact hc)).trans hcs, h3, h4⟩
/-- The shape was written. -/
theorem HalfT.shape {S S' : LS} {F Fs Fs' : Nat → Prop} {b k m : Nat} {X : LV} {l' : Kv ByteArray} (hb : S.box b = some [X, iv (k : Nat), iv (m : Nat)]) (hn : ¬ Fs b) (hF : ∀ c, F c ↔ c = b ∨ Fs c) (h : ShT S' Fs' X k l') (mv : MvF S Fs S' Fs') :
    ∃ F', HalfT S' F' b k m l' ∧ MvF S F S' F' := by
  obtain ⟨h1, h2⟩ := mv.box b _ hb hn
  refine ⟨fun c => c = b ∨ Fs' c, ⟨X, Fs', h1, h, h2, fun c => Iff.rfl⟩, fun c cs hc hn2 => ?_, mv.row, mv.obj, mv.top⟩
  have h3 : c ≠ b := fun e => hn2 ((hF c).2 (.inl e))
  obtain ⟨h4, h5⟩ := mv.box c cs hc fun e => hn2 ((hF c).2 (.inr e))
  exact ⟨h4, fun e => by
    rcases e with e | e
    · exact h3 e
    · exact h5 e⟩

set_option maxHeartbeats 8000000 in
set_option maxRecDepth 20000 in
theorem setT_L {G : Ctx} (hP : G.P = Try.prog) {S : LS} {F : Nat → Prop} {b k : Nat} {l : Kv ByteArray} (h : NodeT S F b k l) {c : Nat} (hc : c < 256) (x : ByteArray) :
    LCalls G 24 [ptr b, .one (uv (c : Nat)), .one (sv x)] (fun r S' => r = .one (bv (!hasK l c)) ∧ ∃ F', NodeT S' F' b (setK k l c) (setL l c x) ∧ MvF S F S' F') S := by
  have hD : TabOK G.P D := by rw [hP]; exact hD0
  have ks := h.ok.ks
  have hle := h.ok.le
  have hok2 := h.ok.set hc x
  obtain ⟨X, Fs, hb, hs, hnb, hF⟩ := h.ex
  obtain ⟨t, bs, rfl⟩ := hs.iface
  refine LCalls.enter (fn := Try.f24) (by rw [hP]; exact Try.func24) rfl rfl ?_
  repeat (first | refine LOps.nil ?_ | refine andThen_normal ?_ | refine andThen_exit ?_ | refine andThen_ret ?_ | refine inBlock_normal ?_ | refine inBlock_ret ?_ | refine inBlock_here ?_ | refine inBlock_out rfl ?_ | refine LWp.seq ?_ | refine LWp.region ?_ | refine LWp.block ?_ | refine LWp.exit ?_ | refine LWp.ret ?_ | refine LWp.skip ?_ | refine LOps.valA ?_ | refine LOps.outA ?_ | refine LOps.whenA ?_ | refine LOps.pickA ?_ | refine LOps.storeA ?_)
  refine LOps.do (LDo.callF (noneT_L hP hb) (by rw [hP]; exact Try.func33)) rfl rfl rfl ?_
  rintro _ S ⟨rfl, rfl⟩
  repeat (first | refine LWp.condF rfl ?_ | refine LOps.nil ?_ | refine andThen_normal ?_ | refine andThen_exit ?_ | refine andThen_ret ?_ | refine inBlock_normal ?_ | refine inBlock_ret ?_ | refine inBlock_here ?_ | refine inBlock_out rfl ?_ | refine LWp.seq ?_ | refine LWp.region ?_ | refine LWp.block ?_ | refine LWp.exit ?_ | refine LWp.ret ?_ | refine LWp.skip ?_ | refine LOps.valA ?_ | refine LOps.outA ?_ | refine LOps.whenA ?_ | refine LOps.pickA ?_ | refine LOps.storeA ?_)
  refine LOps.do (hs.get hP hc rfl rfl rfl) rfl rfl rfl ?_
  rintro _ S ⟨rfl, rfl⟩
  repeat (first | refine LWp.seq (LWp.cut 4 (fun T1 S1 => ∃ (T2 : Nat → TV) (F1 : Nat → Prop), HalfT S1 F1 b (setK k l c) (setL l c x).length l ∧ MvF S F S1 F1 ∧ T1 = over T2 [(0, ptr b), (1, .one (uv (c : Nat))), (2, .one (sv x)), (8, .one (bv (hasK l c)))]) rfl ?_ ?_) | refine LOps.nil ?_ | refine andThen_normal ?_ | refine andThen_exit ?_ | refine andThen_ret ?_ | refine inBlock_normal ?_ | refine inBlock_ret ?_ | refine inBlock_here ?_ | refine inBlock_out rfl ?_ | refine LWp.seq ?_ | refine LWp.region ?_ | refine LWp.block ?_ | refine LWp.exit ?_ | refine LWp.ret ?_ | refine LWp.skip ?_ | refine LOps.valA ?_ | refine LOps.outA ?_ | refine LOps.whenA ?_ | refine LOps.pickA ?_ | refine LOps.storeA ?_)
  · cases hk : hasK l c with
    | true =>
      have e1 : setK k l c = k := by unfold setK; rw [hk]; rfl
      have e2 : (setL l c x).length = l.length := by rw [len_set ks, hk]; rfl
      rw [e1, e2]
      repeat (first | refine LWp.condF rfl ?_ | refine LOps.nil ?_ | refine andThen_normal ?_ | refine andThen_exit ?_ | refine andThen_ret ?_ | refine inBlock_normal ?_ | refine inBlock_ret ?_ | refine inBlock_here ?_ | refine inBlock_out rfl ?_ | refine LWp.seq ?_ | refine LWp.region ?_ | refine LWp.block ?_ | refine LWp.exit ?_ | refine LWp.ret ?_ | refine LWp.skip ?_ | refine LOps.valA ?_ | refine LOps.outA ?_ | refine LOps.whenA ?_ | refine LOps.pickA ?_ | refine LOps.storeA ?_)
      exact ⟨_, F, h.half, .refl _ _, holds.over ⟨rfl, rfl, rfl, rfl, trivial⟩⟩
    | false =>
      have e1 : setK k l c = growK k l.length := by unfold setK; rw [hk]; rfl
      have e2 : (setL l c x).length = l.length + 1 := by rw [len_set ks, hk]; rfl
      rw [e1] at hok2
      rw [e1, e2]
      have hlt := ks.room hc hk
      repeat (first | refine LWp.condT rfl ?_ | refine LWp.seq (LWp.cut 5 (fun T1 S1 => ∃ (T2 : Nat → TV) (F1 : Nat → Prop), NodeT S1 F1 b (growK k l.length) l ∧ MvF S F S1 F1 ∧ T1 = over T2 [(0, ptr b), (1, .one (uv (c : Nat))), (2, .one (sv x)), (8, .one (bv false))]) rfl ?_ ?_) | refine LOps.nil ?_ | refine andThen_normal ?_ | refine andThen_exit ?_ | refine andThen_ret ?_ | refine inBlock_normal ?_ | refine inBlock_ret ?_ | refine inBlock_here ?_ | refine inBlock_out rfl ?_ | refine LWp.seq ?_ | refine LWp.region ?_ | refine LWp.block ?_ | refine LWp.exit ?_ | refine LWp.ret ?_ | refine LWp.skip ?_ | refine LOps.valA ?_ | refine LOps.outA ?_ | refine LOps.whenA ?_ | refine LOps.pickA ?_ | refine LOps.storeA ?_)
      · repeat (first | refine LOps.nil ?_ | refine andThen_normal ?_ | refine andThen_exit ?_ | refine andThen_ret ?_ | refine inBlock_normal ?_ | refine inBlock_ret ?_ | refine inBlock_here ?_ | refine inBlock_out rfl ?_ | refine LWp.seq ?_ | refine LWp.region ?_ | refine LWp.block ?_ | refine LWp.exit ?_ | refine LWp.ret ?_ | refine LWp.skip ?_ | refine LOps.valA ?_ | refine LOps.outA ?_ | refine LOps.whenA ?_ | refine LOps.pickA ?_ | refine LOps.storeA ?_)
        refine LWp.drawL [0, 1, 2, 3, 4, 5, 6, 7, 8] (by rw [hP]; rfl) rfl ?_
        repeat (first | refine LRl.valH (LVal.load hD rfl rfl hb rfl rfl) ?_ (fun _ hS => LVal.load hD rfl rfl (hS.box _ _ hb (by first | exact id | (intro hx; rcases hx with hx | hx <;> omega) | (intro hx; have hx2 : _ = _ := hx; omega) | (intro hx; exact absurd hx.1 (by decide)))) rfl rfl) | refine LRl.nil ?_ | refine LRl.valA ?_ | refine LRl.outA ?_ | refine LRl.whenA ?_ | refine LRl.pickA ?_)
        repeat (first | refine LOps.nil ?_ | refine andThen_normal ?_ | refine andThen_exit ?_ | refine andThen_ret ?_ | refine inBlock_normal ?_ | refine inBlock_ret ?_ | refine inBlock_here ?_ | refine inBlock_out rfl ?_ | refine LWp.seq ?_ | refine LWp.region ?_ | refine LWp.block ?_ | refine LWp.exit ?_ | refine LWp.ret ?_ | refine LWp.skip ?_)
        refine LWp.cond rfl (fun hh => ?_) (fun hh => ?_)
        · have hh : (((l.length : Nat) : Int) == ((k : Nat) : Int)) = true := hh
          have hlk : l.length = k := by simp at hh; omega
          have e3 : growK k l.length = nextK k := by unfold growK; rw [if_pos hlk]
          rw [e3]
          rcases h.ok.kind with rfl | rfl | rfl | rfl
          · repeat (first | refine LWp.condT rfl ?_ | refine LOps.nil ?_ | refine andThen_normal ?_ | refine andThen_exit ?_ | refine andThen_ret ?_ | refine inBlock_normal ?_ | refine inBlock_ret ?_ | refine inBlock_here ?_ | refine inBlock_out rfl ?_ | refine LWp.seq ?_ | refine LWp.region ?_ | refine LWp.block ?_ | refine LWp.exit ?_ | refine LWp.ret ?_ | refine LWp.skip ?_ | refine LOps.valA ?_ | refine LOps.outA ?_ | refine LOps.whenA ?_ | refine LOps.pickA ?_ | refine LOps.storeA ?_)
            refine LOps.do (LDo.callF (becomeT_L hP h (k' := 16) (by simp) (by omega)) (by rw [hP]; exact Try.func34)) rfl rfl rfl ?_
            rintro _ S1 ⟨F1, h1, mv⟩
            repeat (first | refine LOps.nil ?_ | refine andThen_normal ?_ | refine andThen_exit ?_ | refine andThen_ret ?_ | refine inBlock_normal ?_ | refine inBlock_ret ?_ | refine inBlock_here ?_ | refine inBlock_out rfl ?_ | refine LWp.seq ?_ | refine LWp.region ?_ | refine LWp.block ?_ | refine LWp.exit ?_ | refine LWp.ret ?_ | refine LWp.skip ?_ | refine LOps.valA ?_ | refine LOps.outA ?_ | refine LOps.whenA ?_ | refine LOps.pickA ?_ | refine LOps.storeA ?_)
            exact ⟨_, F1, h1, mv, holds.over ⟨rfl, rfl, rfl, rfl, trivial⟩⟩
          · repeat (first | refine LWp.condF rfl ?_ | refine LOps.nil ?_ | refine andThen_normal ?_ | refine andThen_exit ?_ | refine andThen_ret ?_ | refine inBlock_normal ?_ | refine inBlock_ret ?_ | refine inBlock_here ?_ | refine inBlock_out rfl ?_ | refine LWp.seq ?_ | refine LWp.region ?_ | refine LWp.block ?_ | refine LWp.exit ?_ | refine LWp.ret ?_ | refine LWp.skip ?_ | refine LOps.valA ?_ | refine LOps.outA ?_ | refine LOps.whenA ?_ | refine LOps.pickA ?_ | refine LOps.storeA ?_)
            repeat (first | refine LWp.condT rfl ?_ | refine LOps.nil ?_ | refine andThen_normal ?_ | refine andThen_exit ?_ | refine andThen_ret ?_ | refine inBlock_normal ?_ | refine inBlock_ret ?_ | refine inBlock_here ?_ | refine inBlock_out rfl ?_ | refine LWp.seq ?_ | refine LWp.region ?_ | refine LWp.block ?_ | refine LWp.exit ?_ | refine LWp.ret ?_ | refine LWp.skip ?_ | refine LOps.valA ?_ | refine LOps.outA ?_ | refine LOps.whenA ?_ | refine LOps.pickA ?_ | refine LOps.storeA ?_)
            refine LOps.do (LDo.callF (becomeT_L hP h (k' := 48) (by simp) (by omega)) (by rw [hP]; exact Try.func34)) rfl rfl rfl ?_
            rintro _ S1 ⟨F1, h1, mv⟩
            repeat (first | refine LOps.nil ?_ | refine andThen_normal ?_ | refine andThen_exit ?_ | refine andThen_ret ?_ | refine inBlock_normal ?_ | refine inBlock_ret ?_ | refine inBlock_here ?_ | refine inBlock_out rfl ?_ | refine LWp.seq ?_ | refine LWp.region ?_ | refine LWp.block ?_ | refine LWp.exit ?_ | refine LWp.ret ?_ | refine LWp.skip ?_ | refine LOps.valA ?_ | refine LOps.outA ?_ | refine LOps.whenA ?_ | refine LOps.pickA ?_ | refine LOps.storeA ?_)
            exact ⟨_, F1, h1, mv, holds.over ⟨rfl, rfl, rfl, rfl, trivial⟩⟩
          · repeat (first | refine LWp.condF rfl ?_ | refine LOps.nil ?_ | refine andThen_normal ?_ | refine andThen_exit ?_ | refine andThen_ret ?_ | refine inBlock_normal ?_ | refine inBlock_ret ?_ | refine inBlock_here ?_ | refine inBlock_out rfl ?_ | refine LWp.seq ?_ | refine LWp.region ?_ | refine LWp.block ?_ | refine LWp.exit ?_ | refine LWp.ret ?_ | refine LWp.skip ?_ | refine LOps.valA ?_ | refine LOps.outA ?_ | refine LOps.whenA ?_ | refine LOps.pickA ?_ | refine LOps.storeA ?_)
            refine LOps.do (LDo.callF (becomeT_L hP h (k' := 256) (by simp) (by omega)) (by rw [hP]; exact Try.func34)) rfl rfl rfl ?_
            rintro _ S1 ⟨F1, h1, mv⟩
            repeat (first | refine LOps.nil ?_ | refine andThen_normal ?_ | refine andThen_exit ?_ | refine andThen_ret ?_ | refine inBlock_normal ?_ | refine inBlock_ret ?_ | refine inBlock_here ?_ | refine inBlock_out rfl ?_ | refine LWp.seq ?_ | refine LWp.region ?_ | refine LWp.block ?_ | refine LWp.exit ?_ | refine LWp.ret ?_ | refine LWp.skip ?_ | refine LOps.valA ?_ | refine LOps.outA ?_ | refine LOps.whenA ?_ | refine LOps.pickA ?_ | refine LOps.storeA ?_)
            exact ⟨_, F1, h1, mv, holds.over ⟨rfl, rfl, rfl, rfl, trivial⟩⟩
          · omega
        · have hh : (((l.length : Nat) : Int) == ((k : Nat) : Int)) = false := hh
          have hlk : l.length ≠ k := by simp at hh; omega
          have e3 : growK k l.length = k := by unfold growK; rw [if_neg hlk]
          rw [e3]
          repeat (first | refine LOps.nil ?_ | refine andThen_normal ?_ | refine andThen_exit ?_ | refine andThen_ret ?_ | refine inBlock_normal ?_ | refine inBlock_ret ?_ | refine inBlock_here ?_ | refine inBlock_out rfl ?_ | refine LWp.seq ?_ | refine LWp.region ?_ | refine LWp.block ?_ | refine LWp.exit ?_ | refine LWp.ret ?_ | refine LWp.skip ?_ | refine LOps.valA ?_ | refine LOps.outA ?_ | refine LOps.whenA ?_ | refine LOps.pickA ?_ | refine LOps.storeA ?_)
          exact ⟨_, F, h, .refl _ _, holds.over ⟨rfl, rfl, rfl, rfl, trivial⟩⟩
      rintro T1 S1 ⟨T2, F1, h1, mv, rfl⟩
      have hown := h1.half.own
      obtain ⟨X1, Fs1, hb1, hs1, hnb1, hF1⟩ := h1.ex
      repeat (first | refine LOps.valH (r := .one (iv (l.length + 1 : Nat))) (LVal.to (LVal.add64 rfl rfl rfl (by omega)) rfl) ?_ | refine LOps.nil ?_ | refine andThen_normal ?_ | refine andThen_exit ?_ | refine andThen_ret ?_ | refine inBlock_normal ?_ | refine inBlock_ret ?_ | refine inBlock_here ?_ | refine inBlock_out rfl ?_ | refine LWp.seq ?_ | refine LWp.region ?_ | refine LWp.block ?_ | refine LWp.exit ?_ | refine LWp.ret ?_ | refine LWp.skip ?_ | refine LOps.valA ?_ | refine LOps.outA ?_ | refine LOps.whenA ?_ | refine LOps.pickA ?_ | refine LOps.storeA ?_)
      exact ⟨_, F1, h1.half.put hb1 _, mv.trans (.setBox hown _ fun _ hc => hc), holds.over ⟨rfl, rfl, rfl, rfl, trivial⟩⟩
  clear hb hs hnb hF h
  rintro T1 S1 ⟨T2, F1, h1, mv, rfl⟩
  obtain ⟨X1, Fs1, hb1, hs1, hnb1, hF1⟩ := h1.ex
  have hroom : hasK l c = false → l.length < setK k l c := fun e => by
    have := hok2.le
    rw [len_set ks, e] at this
    simp at this; omega
  repeat (first | refine LOps.nil ?_ | refine andThen_normal ?_ | refine andThen_exit ?_ | refine andThen_ret ?_ | refine inBlock_normal ?_ | refine inBlock_ret ?_ | refine inBlock_here ?_ | refine inBlock_out rfl ?_ | refine LWp.seq ?_ | refine LWp.region ?_ | refine LWp.block ?_ | refine LWp.exit ?_ | refine LWp.ret ?_ | refine LWp.skip ?_ | refine LOps.valA ?_ | refine LOps.outA ?_ | refine LOps.whenA ?_ | refine LOps.pickA ?_ | refine LOps.storeA ?_)
  refine LOps.do (hs1.set (z := x) hP hc hroom rfl rfl rfl rfl) rfl rfl rfl ?_
  rintro _ S2 ⟨F2, h2, mv2⟩
  obtain ⟨F3, ⟨X3, Fs3, q1, q2, q3, q4⟩, mv3⟩ := HalfT.shape hb1 hnb1 hF1 h2 mv2
  repeat (first | refine LOps.nil ?_ | refine andThen_normal ?_ | refine andThen_exit ?_ | refine andThen_ret ?_ | refine inBlock_normal ?_ | refine inBlock_ret ?_ | refine inBlock_here ?_ | refine inBlock_out rfl ?_ | refine LWp.seq ?_ | refine LWp.region ?_ | refine LWp.block ?_ | refine LWp.exit ?_ | refine LWp.ret ?_ | refine LWp.skip ?_ | refine LOps.valA ?_ | refine LOps.outA ?_ | refine LOps.whenA ?_ | refine LOps.pickA ?_ | refine LOps.storeA ?_)
  exact ⟨_, LRes.one rfl, rfl, F3, ⟨⟨X3, Fs3, q1, q2, q3, q4⟩, hok2⟩, mv.trans mv3⟩

set_option maxHeartbeats 8000000 in
set_option maxRecDepth 20000 in
theorem dropT_L {G : Ctx} (hP : G.P = Try.prog) {S : LS} {F : Nat → Prop} {b k : Nat} {l : Kv ByteArray} (h : NodeT S F b k l) {c : Nat} (hc : c < 256) :
    LCalls G 28 [ptr b, .one (uv (c : Nat))] (fun r S' => r = .one (bv (hasK l c)) ∧ ∃ F', NodeT S' F' b (dropK k l c) (delL l c) ∧ MvF S F S' F') S := by
  have hD : TabOK G.P D := by rw [hP]; exact hD0
  have ks := h.ok.ks
  have hle := h.ok.le
  have hok2 := h.ok.drop c
  have h256 := ks.len
  obtain ⟨X, Fs, hb, hs, hnb, hF⟩ := h.ex
  refine LCalls.enter (fn := Try.f28) (by rw [hP]; exact Try.func28) rfl rfl ?_
  repeat (first | refine LOps.nil ?_ | refine andThen_normal ?_ | refine andThen_exit ?_ | refine andThen_ret ?_ | refine inBlock_normal ?_ | refine inBlock_ret ?_ | refine inBlock_here ?_ | refine inBlock_out rfl ?_ | refine LWp.seq ?_ | refine LWp.region ?_ | refine LWp.block ?_ | refine LWp.exit ?_ | refine LWp.ret ?_ | refine LWp.skip ?_ | refine LOps.valA ?_ | refine LOps.outA ?_ | refine LOps.whenA ?_ | refine LOps.pickA ?_ | refine LOps.storeA ?_)
  refine LOps.do (LDo.callF (nodeT_get hP h hc) (by rw [hP]; exact Try.func26)) rfl rfl rfl ?_
  rintro _ S ⟨rfl, rfl⟩
  cases hk : hasK l c with
  | false =>
    have e1 : dropK k l c = k := by unfold dropK; rw [hk]; rfl
    rw [e1, delL_not hk]
    rw [getT, hk]
    repeat (first | refine LWp.condT rfl ?_ | refine LOps.nil ?_ | refine andThen_normal ?_ | refine andThen_exit ?_ | refine andThen_ret ?_ | refine inBlock_normal ?_ | refine inBlock_ret ?_ | refine inBlock_here ?_ | refine inBlock_out rfl ?_ | refine LWp.seq ?_ | refine LWp.region ?_ | refine LWp.block ?_ | refine LWp.exit ?_ | refine LWp.ret ?_ | refine LWp.skip ?_ | refine LOps.valA ?_ | refine LOps.outA ?_ | refine LOps.whenA ?_ | refine LOps.pickA ?_ | refine LOps.storeA ?_)
    exact ⟨_, LRes.one rfl, rfl, F, h, .refl _ _⟩
  | true =>
    have e1 : dropK k l c = shrinkK k (l.length - 1) := by unfold dropK; rw [hk]; rfl
    have e2 : (delL l c).length = l.length - 1 := by rw [len_del ks, hk]; rfl
    have hpos : 0 < l.length := by obtain ⟨h1, _⟩ := hasK_at ks hk; omega
    rw [e1] at hok2
    rw [e1]
    rw [getT, hk]
    repeat (first | refine LWp.condF rfl ?_ | refine LOps.nil ?_ | refine andThen_normal ?_ | refine andThen_exit ?_ | refine andThen_ret ?_ | refine inBlock_normal ?_ | refine inBlock_ret ?_ | refine inBlock_here ?_ | refine inBlock_out rfl ?_ | refine LWp.seq ?_ | refine LWp.region ?_ | refine LWp.block ?_ | refine LWp.exit ?_ | refine LWp.ret ?_ | refine LWp.skip ?_ | refine LOps.valA ?_ | refine LOps.outA ?_ | refine LOps.whenA ?_ | refine LOps.pickA ?_ | refine LOps.storeA ?_)
    refine LOps.do (hs.drop hP hc hk rfl rfl rfl) rfl rfl rfl ?_
    rintro _ S1 ⟨F1, h1, mv1⟩
    obtain ⟨F2, h2, mv2⟩ := HalfT.shape hb hnb hF h1 mv1
    clear h1 mv1
    obtain ⟨X2, Fs2, hb2, hs2, hnb2, hF2⟩ := h2.ex
    repeat (first | refine LOps.valH (r := .one (iv (l.length - 1 : Nat))) (LVal.to (LVal.sub64 rfl rfl rfl (by omega)) (by rw [show ((l.length : Nat) : Int) - 1 = ((l.length - 1 : Nat) : Int) by omega])) ?_ | refine LOps.storeA (cs := [X2, iv (k : Nat), iv (l.length : Nat)]) (l := [iv (l.length - 1 : Nat)]) (off := 2) (b := b) ?_ | refine LOps.nil ?_ | refine andThen_normal ?_ | refine andThen_exit ?_ | refine andThen_ret ?_ | refine inBlock_normal ?_ | refine inBlock_ret ?_ | refine inBlock_here ?_ | refine inBlock_out rfl ?_ | refine LWp.seq ?_ | refine LWp.region ?_ | refine LWp.block ?_ | refine LWp.exit ?_ | refine LWp.ret ?_ | refine LWp.skip ?_ | refine LOps.valA ?_ | refine LOps.outA ?_ | refine LOps.whenA ?_ | refine LOps.pickA ?_ | refine LOps.storeA ?_)
    have hb3 := box_set S1 b [X2, iv (k : Nat), iv (l.length - 1 : Nat)]
    have hs3 := hs2.keep (S' := S1.setBox b [X2, iv (k : Nat), iv (l.length - 1 : Nat)]) fun d cs hd hcs => (box_set_ne _ _ fun e => hnb2 (by rw [← e]; exact hd)).trans hcs
    have mv3 : MvF S F (S1.setBox b [X2, iv (k : Nat), iv (l.length - 1 : Nat)]) F2 := mv2.trans (.setBox h2.own _ fun _ hc => hc)
    have hS3 : ∃ S3, S1.setBox b [X2, iv (k : Nat), iv (l.length - 1 : Nat)] = S3 := ⟨_, rfl⟩
    obtain ⟨S3, hS3⟩ := hS3
    rw [hS3] at hb3 hs3 mv3
    refine LOps.gen (fun S4 => S4 = S3) hS3 ?_
    rintro S3 rfl
    clear mv2 h2 hb2 hs2 hb hs hnb hF hS3
    have h3N : NodeT S3 F2 b k (delL l c) := ⟨⟨X2, Fs2, by rw [e2]; exact hb3, hs3, hnb2, hF2⟩, ⟨h.ok.kind, by omega, ks.del⟩⟩
    have fin : ∀ k2 : Nat, (k2 = 4 ∨ k2 = 16 ∨ k2 = 48 ∨ k2 = 256) → l.length - 1 ≤ k2 → LCalls G 34 [ptr b, .one (iv (k2 : Nat))] (fun r S' => ∃ F', NodeT S' F' b k2 (delL l c) ∧ MvF S3 F2 S' F') S3 := fun k2 h1 h2 => becomeT_L hP h3N h1 (by omega)
    cases hs3 with
    | so bs A B _ _ hk2 hso =>
      have hbs := hso.box
      have hlenA := hso.ka.pt keyL_len
      rcases hk2 with rfl | rfl
      · have e3 : shrinkK 4 (l.length - 1) = 4 := by unfold shrinkK; simp
        rw [e3]
        repeat (first | refine LOps.valH (LVal.assertYes hD rfl rfl rfl rfl rfl rfl) ?_ | refine LWp.condT rfl ?_ | refine LOps.whenC (LVal.load hD rfl rfl hbs rfl rfl) ?_ | refine LOps.whenC (LVal.lenPt hD rfl rfl hlenA rfl rfl) ?_ | refine LWp.condF rfl ?_ | refine LOps.nil ?_ | refine andThen_normal ?_ | refine andThen_exit ?_ | refine andThen_ret ?_ | refine inBlock_normal ?_ | refine inBlock_ret ?_ | refine inBlock_here ?_ | refine inBlock_out rfl ?_ | refine LWp.seq ?_ | refine LWp.region ?_ | refine LWp.block ?_ | refine LWp.exit ?_ | refine LWp.ret ?_ | refine LWp.skip ?_ | refine LOps.valA ?_ | refine LOps.outA ?_ | refine LOps.whenA ?_ | refine LOps.pickA ?_ | refine LOps.storeA ?_)
        exact ⟨_, LRes.one rfl, rfl, F2, h3N, mv3⟩
      · repeat (first | refine LOps.valH (LVal.assertYes hD rfl rfl rfl rfl rfl rfl) ?_ | refine LOps.whenC (LVal.load hD rfl rfl hbs rfl rfl) ?_ | refine LOps.whenC (LVal.lenPt hD rfl rfl hlenA rfl rfl) ?_ | refine LWp.condT rfl ?_ | refine LOps.nil ?_ | refine andThen_normal ?_ | refine andThen_exit ?_ | refine andThen_ret ?_ | refine inBlock_normal ?_ | refine inBlock_ret ?_ | refine inBlock_here ?_ | refine inBlock_out rfl ?_ | refine LWp.seq ?_ | refine LWp.region ?_ | refine LWp.block ?_ | refine LWp.exit ?_ | refine LWp.ret ?_ | refine LWp.skip ?_ | refine LOps.valA ?_ | refine LOps.outA ?_ | refine LOps.whenA ?_ | refine LOps.pickA ?_ | refine LOps.storeA ?_)
        refine LWp.cond rfl (fun hh => ?_) (fun hh => ?_)
        · have hh : ((((16 : Nat) : Int) == 16) && decide ((((delL l c).length : Nat) : Int) ≤ 3)) = true := hh
          have h4 : l.length - 1 ≤ 3 := by simp at hh; omega
          have e3 : shrinkK 16 (l.length - 1) = 4 := by unfold shrinkK; simp [h4]
          rw [e3]
          repeat (first | refine LOps.nil ?_ | refine andThen_normal ?_ | refine andThen_exit ?_ | refine andThen_ret ?_ | refine inBlock_normal ?_ | refine inBlock_ret ?_ | refine inBlock_here ?_ | refine inBlock_out rfl ?_ | refine LWp.seq ?_ | refine LWp.region ?_ | refine LWp.block ?_ | refine LWp.exit ?_ | refine LWp.ret ?_ | refine LWp.skip ?_ | refine LOps.valA ?_ | refine LOps.outA ?_ | refine LOps.whenA ?_ | refine LOps.pickA ?_ | refine LOps.storeA ?_)
          refine LOps.do (LDo.callF (fin 4 (by simp) (by omega)) (by rw [hP]; exact Try.func34)) rfl rfl rfl ?_
          rintro _ S5 ⟨F5, h5, mv5⟩
          repeat (first | refine LOps.nil ?_ | refine andThen_normal ?_ | refine andThen_exit ?_ | refine andThen_ret ?_ | refine inBlock_normal ?_ | refine inBlock_ret ?_ | refine inBlock_here ?_ | refine inBlock_out rfl ?_ | refine LWp.seq ?_ | refine LWp.region ?_ | refine LWp.block ?_ | refine LWp.exit ?_ | refine LWp.ret ?_ | refine LWp.skip ?_ | refine LOps.valA ?_ | refine LOps.outA ?_ | refine LOps.whenA ?_ | refine LOps.pickA ?_ | refine LOps.storeA ?_)
          exact ⟨_, LRes.one rfl, rfl, F5, h5, mv3.trans mv5⟩
        · have hh : ((((16 : Nat) : Int) == 16) && decide ((((delL l c).length : Nat) : Int) ≤ 3)) = false := hh
          have h4 : ¬ l.length - 1 ≤ 3 := by simp at hh; omega
          have e3 : shrinkK 16 (l.length - 1) = 16 := by unfold shrinkK; simp [h4]
          rw [e3]
          repeat (first | refine LOps.nil ?_ | refine andThen_normal ?_ | refine andThen_exit ?_ | refine andThen_ret ?_ | refine inBlock_normal ?_ | refine inBlock_ret ?_ | refine inBlock_here ?_ | refine inBlock_out rfl ?_ | refine LWp.seq ?_ | refine LWp.region ?_ | refine LWp.block ?_ | refine LWp.exit ?_ | refine LWp.ret ?_ | refine LWp.skip ?_ | refine LOps.valA ?_ | refine LOps.outA ?_ | refine LOps.whenA ?_ | refine LOps.pickA ?_ | refine LOps.storeA ?_)
          exact ⟨_, LRes.one rfl, rfl, F2, h3N, mv3⟩
    | ix bs _ hix =>
      repeat (first | refine LOps.valH (LVal.assertNo hD rfl rfl rfl rfl rfl rfl) ?_ | refine LOps.nil ?_ | refine andThen_normal ?_ | refine andThen_exit ?_ | refine andThen_ret ?_ | refine inBlock_normal ?_ | refine inBlock_ret ?_ | refine inBlock_here ?_ | refine inBlock_out rfl ?_ | refine LWp.seq ?_ | refine LWp.region ?_ | refine LWp.block ?_ | refine LWp.exit ?_ | refine LWp.ret ?_ | refine LWp.skip ?_ | refine LOps.valA ?_ | refine LOps.outA ?_ | refine LOps.whenA ?_ | refine LOps.pickA ?_ | refine LOps.storeA ?_)
      refine LWp.condF rfl ?_
      repeat (first | refine LOps.valH (LVal.assertYes hD rfl rfl rfl rfl rfl rfl) ?_ | refine LOps.nil ?_ | refine andThen_normal ?_ | refine andThen_exit ?_ | refine andThen_ret ?_ | refine inBlock_normal ?_ | refine inBlock_ret ?_ | refine inBlock_here ?_ | refine inBlock_out rfl ?_ | refine LWp.seq ?_ | refine LWp.region ?_ | refine LWp.block ?_ | refine LWp.exit ?_ | refine LWp.ret ?_ | refine LWp.skip ?_ | refine LOps.valA ?_ | refine LOps.outA ?_ | refine LOps.whenA ?_ | refine LOps.pickA ?_ | refine LOps.storeA ?_)
      refine LWp.condT rfl ?_
      repeat (first | refine LOps.nil ?_ | refine andThen_normal ?_ | refine andThen_exit ?_ | refine andThen_ret ?_ | refine inBlock_normal ?_ | refine inBlock_ret ?_ | refine inBlock_here ?_ | refine inBlock_out rfl ?_ | refine LWp.seq ?_ | refine LWp.region ?_ | refine LWp.block ?_ | refine LWp.exit ?_ | refine LWp.ret ?_ | refine LWp.skip ?_ | refine LOps.valA ?_ | refine LOps.outA ?_ | refine LOps.whenA ?_ | refine LOps.pickA ?_ | refine LOps.storeA ?_)
      refine LWp.cond rfl (fun hh => ?_) (fun hh => ?_)
      · have hh : decide (((l.length - 1 : Nat) : Int) ≤ 12) = true := hh
        have h4 : l.length - 1 ≤ 12 := by simp at hh; omega
        have e3 : shrinkK 48 (l.length - 1) = 16 := by unfold shrinkK; simp [h4]
        rw [e3]
        repeat (first | refine LOps.nil ?_ | refine andThen_normal ?_ | refine andThen_exit ?_ | refine andThen_ret ?_ | refine inBlock_normal ?_ | refine inBlock_ret ?_ | refine inBlock_here ?_ | refine inBlock_out rfl ?_ | refine LWp.seq ?_ | refine LWp.region ?_ | refine LWp.block ?_ | refine LWp.exit ?_ | refine LWp.ret ?_ | refine LWp.skip ?_ | refine LOps.valA ?_ | refine LOps.outA ?_ | refine LOps.whenA ?_ | refine LOps.pickA ?_ | refine LOps.storeA ?_)
        refine LOps.do (LDo.callF (fin 16 (by simp) (by omega)) (by rw [hP]; exact Try.func34)) rfl rfl rfl ?_
        rintro _ S5 ⟨F5, h5, mv5⟩
        repeat (first | refine LOps.nil ?_ | refine andThen_normal ?_ | refine andThen_exit ?_ | refine andThen_ret ?_ | refine inBlock_normal ?_ | refine inBlock_ret ?_ | refine inBlock_here ?_ | refine inBlock_out rfl ?_ | refine LWp.seq ?_ | refine LWp.region ?_ | refine LWp.block ?_ | refine LWp.exit ?_ | refine LWp.ret ?_ | refine LWp.skip ?_ | refine LOps.valA ?_ | refine LOps.outA ?_ | refine LOps.whenA ?_ | refine LOps.pickA ?_ | refine LOps.storeA ?_)
        exact ⟨_, LRes.one rfl, rfl, F5, h5, mv3.trans mv5⟩
      · have hh : decide (((l.length - 1 : Nat) : Int) ≤ 12) = false := hh
        have h4 : ¬ l.length - 1 ≤ 12 := by simp at hh; omega
        have e3 : shrinkK 48 (l.length - 1) = 48 := by unfold shrinkK; simp [h4]
        rw [e3]
        repeat (first | refine LOps.nil ?_ | refine andThen_normal ?_ | refine andThen_exit ?_ | refine andThen_ret ?_ | refine inBlock_normal ?_ | refine inBlock_ret ?_ | refine inBlock_here ?_ | refine inBlock_out rfl ?_ | refine LWp.seq ?_ | refine LWp.region ?_ | refine LWp.block ?_ | refine LWp.exit ?_ | refine LWp.ret ?_ | refine LWp.skip ?_ | refine LOps.valA ?_ | refine LOps.outA ?_ | refine LOps.whenA ?_ | refine LOps.pickA ?_ | refine LOps.storeA ?_)
        exact ⟨_, LRes.one rfl, rfl, F2, h3N, mv3⟩
    | dr bs _ hdr =>
      repeat (first | refine LOps.valH (LVal.assertNo hD rfl rfl rfl rfl rfl rfl) ?_ | refine LOps.nil ?_ | refine andThen_normal ?_ | refine andThen_exit ?_ | refine andThen_ret ?_ | refine inBlock_normal ?_ | refine inBlock_ret ?_ | refine inBlock_here ?_ | refine inBlock_out rfl ?_ | refine LWp.seq ?_ | refine LWp.region ?_ | refine LWp.block ?_ | refine LWp.exit ?_ | refine LWp.ret ?_ | refine LWp.skip ?_ | refine LOps.valA ?_ | refine LOps.outA ?_ | refine LOps.whenA ?_ | refine LOps.pickA ?_ | refine LOps.storeA ?_)
      refine LWp.condF rfl ?_
      repeat (first | refine LOps.valH (LVal.assertNo hD rfl rfl rfl rfl rfl rfl) ?_ | refine LOps.nil ?_ | refine andThen_normal ?_ | refine andThen_exit ?_ | refine andThen_ret ?_ | refine inBlock_normal ?_ | refine inBlock_ret ?_ | refine inBlock_here ?_ | refine inBlock_out rfl ?_ | refine LWp.seq ?_ | refine LWp.region ?_ | refine LWp.block ?_ | refine LWp.exit ?_ | refine LWp.ret ?_ | refine LWp.skip ?_ | refine LOps.valA ?_ | refine LOps.outA ?_ | refine LOps.whenA ?_ | refine LOps.pickA ?_ | refine LOps.storeA ?_)
      refine LWp.condF rfl ?_
      repeat (first | refine LOps.valH (LVal.assertYes hD rfl rfl rfl rfl rfl rfl) ?_ | refine LOps.nil ?_ | refine andThen_normal ?_ | refine andThen_exit ?_ | refine andThen_ret ?_ | refine inBlock_normal ?_ | refine inBlock_ret ?_ | refine inBlock_here ?_ | refine inBlock_out rfl ?_ | refine LWp.seq ?_ | refine LWp.region ?_ | refine LWp.block ?_ | refine LWp.exit ?_ | refine LWp.ret ?_ | refine LWp.skip ?_ | refine LOps.valA ?_ | refine LOps.outA ?_ | refine LOps.whenA ?_ | refine LOps.pickA ?_ | refine LOps.storeA ?_)
      refine LWp.condT rfl ?_
      repeat (first | refine LOps.nil ?_ | refine andThen_normal ?_ | refine andThen_exit ?_ | refine andThen_ret ?_ | refine inBlock_normal ?_ | refine inBlock_ret ?_ | refine inBlock_here ?_ | refine inBlock_out rfl ?_ | refine LWp.seq ?_ | refine LWp.region ?_ | refine LWp.block ?_ | refine LWp.exit ?_ | refine LWp.ret ?_ | refine LWp.skip ?_ | refine LOps.valA ?_ | refine LOps.outA ?_ | refine LOps.whenA ?_ | refine LOps.pickA ?_ | refine LOps.storeA ?_)
      refine LWp.cond rfl (fun hh => ?_) (fun hh => ?_)
      · have hh : decide (((l.length - 1 : Nat) : Int) ≤ 36) = true := hh
        have h4 : l.length - 1 ≤ 36 := by simp at hh; omega
        have e3 : shrinkK 256 (l.length - 1) = 48 := by unfold shrinkK; simp [h4]
        rw [e3]
        repeat (first | refine LOps.nil ?_ | refine andThen_normal ?_ | refine andThen_exit ?_ | refine andThen_ret ?_ | refine inBlock_normal ?_ | refine inBlock_ret ?_ | refine inBlock_here ?_ | refine inBlock_out rfl ?_ | refine LWp.seq ?_ | refine LWp.region ?_ | refine LWp.block ?_ | refine LWp.exit ?_ | refine LWp.ret ?_ | refine LWp.skip ?_ | refine LOps.valA ?_ | refine LOps.outA ?_ | refine LOps.whenA ?_ | refine LOps.pickA ?_ | refine LOps.storeA ?_)
        refine LOps.do (LDo.callF (fin 48 (by simp) (by omega)) (by rw [hP]; exact Try.func34)) rfl rfl rfl ?_
        rintro _ S5 ⟨F5, h5, mv5⟩
        repeat (first | refine LOps.nil ?_ | refine andThen_normal ?_ | refine andThen_exit ?_ | refine andThen_ret ?_ | refine inBlock_normal ?_ | refine inBlock_ret ?_ | refine inBlock_here ?_ | refine inBlock_out rfl ?_ | refine LWp.seq ?_ | refine LWp.region ?_ | refine LWp.block ?_ | refine LWp.exit ?_ | refine LWp.ret ?_ | refine LWp.skip ?_ | refine LOps.valA ?_ | refine LOps.outA ?_ | refine LOps.whenA ?_ | refine LOps.pickA ?_ | refine LOps.storeA ?_)
        exact ⟨_, LRes.one rfl, rfl, F5, h5, mv3.trans mv5⟩
      · have hh : decide (((l.length - 1 : Nat) : Int) ≤ 36) = false := hh
        have h4 : ¬ l.length - 1 ≤ 36 := by simp at hh; omega
        have e3 : shrinkK 256 (l.length - 1) = 256 := by unfold shrinkK; simp [h4]
        rw [e3]
        repeat (first | refine LOps.nil ?_ | refine andThen_normal ?_ | refine andThen_exit ?_ | refine andThen_ret ?_ | refine inBlock_normal ?_ | refine inBlock_ret ?_ | refine inBlock_here ?_ | refine inBlock_out rfl ?_ | refine LWp.seq ?_ | refine LWp.region ?_ | refine LWp.block ?_ | refine LWp.exit ?_ | refine LWp.ret ?_ | refine LWp.skip ?_ | refine LOps.valA ?_ | refine LOps.outA ?_ | refine LOps.whenA ?_ | refine LOps.pickA ?_ | refine LOps.storeA ?_)
        exact ⟨_, LRes.one rfl, rfl, F2, h3N, mv3⟩
end Go.Proofs.Ytinbibeapooghaa.LF
