/- The walk of the law 'ArtnodePlays'. -/
import Derived.Test.YtinbibeapooghaaLAj
import Derived.Test.YtinbibeapooghaaLGc
set_option linter.unusedVariables false
set_option linter.unusedSimpArgs false
namespace Go.Proofs.Ytinbibeapooghaa.LF
open Go.RowKit
set_option linter.unusedVariables false
attribute [local irreducible] andThen inBlock LWp LOps LCalls

structure ActV where
  op : Nat
  b : Nat
  more : Nat
  x : Int
  n : Int
def actL (a : ActV) : List LV := [uv (a.op : Nat), uv (a.b : Nat), uv (a.more : Nat), iv a.x, iv a.n]
structure ActV.ok (a : ActV) : Prop where
  op : a.op < 256
  b : a.b < 256
  more : a.more < 256
theorem u8_nat {n : Int} (h : (Lit.int .u8 n).wf = true) : ∃ m : Nat, m < 256 ∧ n = (m : Int) := by
  have h1 : 0 ≤ n ∧ n < 256 := by
    simp [Lit.wf, IntKind.min, IntKind.max, IntKind.signed, IntKind.bits] at h
    omega
  exact ⟨n.toNat, by omega, by omega⟩
theorem typed_act {l : List LV} (h : Typed D 29 l) : ∃ x : ActV, l = actL x ∧ x.ok := by
  obtain ⟨h1, h2⟩ := typed_struct rfl rfl h
  obtain ⟨a, b, c, d, e, rfl⟩ : ∃ a b c d e, l = [a, b, c, d, e] := by
    match l, h1 with
    | [a, b, c, d, e], _ => exact ⟨a, b, c, d, e, rfl⟩
  obtain ⟨x1, e1, w1⟩ := typed_int rfl rfl (h2 0 _ _ rfl rfl)
  obtain ⟨x2, e2, w2⟩ := typed_int rfl rfl (h2 1 _ _ rfl rfl)
  obtain ⟨x3, e3, w3⟩ := typed_int rfl rfl (h2 2 _ _ rfl rfl)
  obtain ⟨x4, e4, _⟩ := typed_int rfl rfl (h2 3 _ _ rfl rfl)
  obtain ⟨x5, e5, _⟩ := typed_int rfl rfl (h2 4 _ _ rfl rfl)
  obtain ⟨y1, z1, rfl⟩ := u8_nat w1
  obtain ⟨y2, z2, rfl⟩ := u8_nat w2
  obtain ⟨y3, z3, rfl⟩ := u8_nat w3
  cases e1; cases e2; cases e3; cases e4; cases e5
  exact ⟨⟨y1, y2, y3, x4, x5⟩, rfl, ⟨z1, z2, z3⟩⟩
theorem typed_acts {l : List LV} (h : Typed D 22 l) : ∃ es : List ActV, l = [.sl .sh (es.map actL)] ∧ ∀ a ∈ es, a.ok := by
  obtain ⟨es, rfl, h2, _⟩ := typed_slice rfl rfl rfl h
  have key : ∀ es : List (List LV), (∀ c ∈ es, Typed D 29 c) → ∃ qs : List ActV, es = qs.map actL ∧ ∀ a ∈ qs, a.ok := by
    intro es
    induction es with
    | nil => intro _; exact ⟨[], rfl, by simp⟩
    | cons c es ih =>
      intro hc
      obtain ⟨qs, rfl, h1⟩ := ih fun c' h' => hc c' (List.mem_cons_of_mem _ h')
      obtain ⟨a, rfl, h2⟩ := typed_act (hc c List.mem_cons_self)
      refine ⟨a :: qs, rfl, fun x hx => ?_⟩
      rcases List.mem_cons.1 hx with rfl | hx
      · exact h2
      · exact h1 x hx
  obtain ⟨qs, rfl, h3⟩ := key es h2
  exact ⟨qs, rfl, h3⟩

/-- The node and the document's, side by side. -/
structure Pair (S0 S : LS) (F : Nat → Prop) (b w k : Nat) (l : Kv Int) : Prop where
  own : OwnI S0 S F b k l
  rf : Rf S w k l
  wn : S0.box w = none
  nw : ¬ F w
theorem Pair.both {S0 S S1 S2 : LS} {F F1 : Nat → Prop} {b w k k' : Nat} {l l' : Kv Int} (h : Pair S0 S F b w k l) (h1 : NodeI S1 F1 b k' l') (m1 : MvF S F S1 F1) (h2 : Rf S2 w k' l') (m2 : MvF S1 (fun x => x = w) S2 (fun x => x = w)) : Pair S0 S2 F1 b w k' l' := by
  obtain ⟨hs, kd, hw, _⟩ := h.rf
  obtain ⟨hw1, nw1⟩ := m1.box w _ hw h.nw
  have ho := h.own.next h1 m1
  refine ⟨⟨ho.le.mvFI m2 fun c hc => (show c = w from hc) ▸ h.wn, ho.new, h1.keep fun c cs hc hcs => (m2.box c cs hcs fun e => nw1 ((show c = w from e) ▸ hc)).1⟩, h2, h.wn, nw1⟩
theorem Pair.rfAt {S0 S S1 : LS} {F F1 : Nat → Prop} {b w k : Nat} {l : Kv Int} (h : Pair S0 S F b w k l) (m1 : MvF S F S1 F1) : Rf S1 w k l := by
  obtain ⟨hs, kd, hw, h2⟩ := h.rf
  exact ⟨hs, kd, (m1.box w _ hw h.nw).1, h2⟩
theorem Pair.le {S0 S S1 : LS} {F : Nat → Prop} {b w k : Nat} {l : Kv Int} (h : Pair S0 S F b w k l) (hle : S.le S1) : Pair S0 S1 F b w k l := ⟨⟨h.own.le.trans hle, h.own.new, h.own.node.le hle⟩, h.rf.le hle, h.wn, h.nw⟩
/-- Another variable stays, and stays apart. -/
theorem Pair.var {S S1 S2 : LS} {F F1 : Nat → Prop} {w c : Nat} {cs : List LV} (hc : S.box c = some cs) (hn : ¬ F c) (hcw : c ≠ w) (m1 : MvF S F S1 F1) (m2 : MvF S1 (fun x => x = w) S2 (fun x => x = w)) : S2.box c = some cs ∧ ¬ F1 c :=
  ⟨(m2.box c cs (m1.box c cs hc hn).1 hcw).1, (m1.box c cs hc hn).2⟩

set_option maxHeartbeats 16000000 in
set_option maxRecDepth 20000 in
theorem plays_L {G : Ctx} (hP : G.P = Try.prog) (l : List ActV) (hl : ∀ a ∈ l, a.ok) (S : LS) :
    LCalls G 3 [.one (.sl .sh (l.map actL))] (fun r _ => r = .one (bv true)) S := by
  have hD : TabOK G.P D := by rw [hP]; exact hD0
  refine LCalls.enter (fn := Try.f3) (by rw [hP]; exact Try.func3) rfl rfl ?_
  repeat (first | refine LOps.nil ?_ | refine andThen_normal ?_ | refine andThen_exit ?_ | refine andThen_ret ?_ | refine inBlock_normal ?_ | refine inBlock_ret ?_ | refine inBlock_here ?_ | refine inBlock_out rfl ?_ | refine LWp.seq ?_ | refine LWp.region ?_ | refine LWp.block ?_ | refine LWp.exit ?_ | refine LWp.ret ?_ | refine LWp.skip ?_ | refine LOps.valA ?_ | refine LOps.outA ?_ | refine LOps.whenA ?_ | refine LOps.pickA ?_ | refine LOps.storeA ?_)
  refine LWp.cond rfl (fun h => ?_) (fun h => ?_)
  · repeat (first | refine LOps.nil ?_ | refine andThen_normal ?_ | refine andThen_exit ?_ | refine andThen_ret ?_ | refine inBlock_normal ?_ | refine inBlock_ret ?_ | refine inBlock_here ?_ | refine inBlock_out rfl ?_ | refine LWp.seq ?_ | refine LWp.region ?_ | refine LWp.block ?_ | refine LWp.exit ?_ | refine LWp.ret ?_ | refine LWp.skip ?_ | refine LOps.valA ?_ | refine LOps.outA ?_ | refine LOps.whenA ?_ | refine LOps.pickA ?_ | refine LOps.storeA ?_)
    refine LOps.do (LDo.callF (wakes_L hP _) (by rw [hP]; exact Try.func8)) rfl rfl rfl ?_
    rintro _ S1 ⟨rfl, _⟩
    repeat (first | refine LOps.nil ?_ | refine andThen_normal ?_ | refine andThen_exit ?_ | refine andThen_ret ?_ | refine inBlock_normal ?_ | refine inBlock_ret ?_ | refine inBlock_here ?_ | refine inBlock_out rfl ?_ | refine LWp.seq ?_ | refine LWp.region ?_ | refine LWp.block ?_ | refine LWp.exit ?_ | refine LWp.ret ?_ | refine LWp.skip ?_ | refine LOps.valA ?_ | refine LOps.outA ?_ | refine LOps.whenA ?_ | refine LOps.pickA ?_ | refine LOps.storeA ?_)
    exact ⟨_, LRes.one rfl, rfl⟩
  have hlen : l.length ≤ 100 := by simp at h; omega
  repeat (first | refine LOps.nil ?_ | refine andThen_normal ?_ | refine andThen_exit ?_ | refine andThen_ret ?_ | refine inBlock_normal ?_ | refine inBlock_ret ?_ | refine inBlock_here ?_ | refine inBlock_out rfl ?_ | refine LWp.seq ?_ | refine LWp.region ?_ | refine LWp.block ?_ | refine LWp.exit ?_ | refine LWp.ret ?_ | refine LWp.skip ?_ | refine LOps.valA ?_ | refine LOps.outA ?_ | refine LOps.whenA ?_ | refine LOps.pickA ?_ | refine LOps.storeA ?_)
  refine LOps.do (LDo.callF (newI_L hP _) (by rw [hP]; exact Try.func9)) rfl rfl rfl ?_
  rintro _ S1 ⟨b, F, rfl, le1, new1, h1⟩
  repeat (first | refine LOps.nil ?_ | refine andThen_normal ?_ | refine andThen_exit ?_ | refine andThen_ret ?_ | refine inBlock_normal ?_ | refine inBlock_ret ?_ | refine inBlock_here ?_ | refine inBlock_out rfl ?_ | refine LWp.seq ?_ | refine LWp.region ?_ | refine LWp.block ?_ | refine LWp.exit ?_ | refine LWp.ret ?_ | refine LWp.skip ?_ | refine LOps.valA ?_ | refine LOps.outA ?_ | refine LOps.whenA ?_ | refine LOps.pickA ?_ | refine LOps.storeA ?_)
  refine LOps.do (LDo.callF (rnew_L hP _) (by rw [hP]; exact Try.func10)) rfl rfl rfl ?_
  rintro _ S2 ⟨w, rfl, le2, hw0, hrf⟩
  have wn : S.box w = none := by
    cases hq : S.box w with
    | none => rfl
    | some cs => rw [le1.box _ _ hq] at hw0; cases hw0
  have hPr : Pair S S2 F b w 4 [] := ⟨⟨le1.trans le2, new1, h1.le le2⟩, hrf, wn, h1.fresh hw0⟩
  clear le1 new1 h1 le2 hw0 hrf wn S1
  repeat (first | refine LOps.nil ?_ | refine andThen_normal ?_ | refine andThen_exit ?_ | refine andThen_ret ?_ | refine inBlock_normal ?_ | refine inBlock_ret ?_ | refine inBlock_here ?_ | refine inBlock_out rfl ?_ | refine LWp.seq ?_ | refine LWp.region ?_ | refine LWp.block ?_ | refine LWp.exit ?_ | refine LWp.ret ?_ | refine LWp.skip ?_ | refine LOps.valA ?_ | refine LOps.outA ?_ | refine LOps.whenA ?_ | refine LOps.pickA ?_ | refine LOps.storeA ?_)
  refine LWp.loop (fun m T S' => ∃ (T' : Nat → TV) (j : Nat) (F : Nat → Prop) (k : Nat) (ks : Kv Int), j ≤ l.length ∧ m = l.length - j ∧ Pair S S' F b w k ks ∧ T = over T' [(0, .one (.sl .sh (l.map actL))), (3, ptr b), (4, ptr w), (5, .one (iv (j : Nat)))]) l.length ?_ ?_
  · exact ⟨_, 0, F, 4, [], by omega, by omega, hPr, holds.over ⟨rfl, rfl, rfl, rfl, trivial⟩⟩
  clear hPr F S2
  rintro m T S1 ⟨T', j, F, k, ks, hj, rfl, hPr, rfl⟩
  repeat (first | refine LOps.nil ?_ | refine andThen_normal ?_ | refine andThen_exit ?_ | refine andThen_ret ?_ | refine inBlock_normal ?_ | refine inBlock_ret ?_ | refine inBlock_here ?_ | refine inBlock_out rfl ?_ | refine LWp.seq ?_ | refine LWp.region ?_ | refine LWp.block ?_ | refine LWp.exit ?_ | refine LWp.ret ?_ | refine LWp.skip ?_ | refine LOps.valA ?_ | refine LOps.outA ?_ | refine LOps.whenA ?_ | refine LOps.pickA ?_ | refine LOps.storeA ?_)
  refine LWp.cond rfl (fun h => ?_) (fun h => ?_)
  · have hlt : j < l.length := by simpa using h
    obtain ⟨ha1, ha2, ha3⟩ := hl _ (List.getElem_mem hlt)
    repeat (first | refine LOps.nil ?_ | refine andThen_normal ?_ | refine andThen_exit ?_ | refine andThen_ret ?_ | refine inBlock_normal ?_ | refine inBlock_ret ?_ | refine inBlock_here ?_ | refine inBlock_out rfl ?_ | refine LWp.seq ?_ | refine LWp.region ?_ | refine LWp.block ?_ | refine LWp.exit ?_ | refine LWp.ret ?_ | refine LWp.skip ?_ | refine LOps.valA ?_ | refine LOps.outA ?_ | refine LOps.whenA ?_ | refine LOps.pickA ?_ | refine LOps.storeA ?_)
    refine LOps.do (LDo.alloc hD rfl rfl rfl) rfl rfl rfl ?_
    rintro _ _ ⟨b6, hb6, rfl, rfl⟩
    have n6w : b6 ≠ w := fun e => by obtain ⟨_, _, hw, _⟩ := hPr.rf; rw [← e, hb6.box] at hw; cases hw
    have nF6 : ¬ F b6 := hPr.own.node.fresh hb6.box
    refine LOps.do0 (LDo.store hD rfl rfl (box_new _ _ _) rfl rfl rfl rfl) rfl rfl ?_
    rintro _ _ ⟨rfl, rfl⟩
    have s6 : S.box b6 = none := hPr.own.le.none hb6
    refine LOps.gen (fun S2 => S1.le S2 ∧ S2.box b6 = some (actL l[j])) ⟨(LS.le.newBox (.refl _) hb6 _).setBox hb6.box _, (box_set _ _ _).trans rfl⟩ ?_
    clear hb6
    rintro S2 ⟨le2, k6⟩
    replace hPr := hPr.le le2
    clear le2
    repeat (first | refine LWp.seq (LWp.cut 9 (fun T1 S3 => ∃ (T2 : Nat → TV) (F : Nat → Prop) (k : Nat) (ks : Kv Int), Pair S S3 F b w k ks ∧ S3.box b6 = some (actL l[j]) ∧ ¬ F b6 ∧ T1 = over T2 [(0, .one (.sl .sh (l.map actL))), (3, ptr b), (4, ptr w), (5, .one (iv (j : Nat))), (6, ptr b6)]) rfl ?_ ?_) | refine LOps.nil ?_ | refine andThen_normal ?_ | refine andThen_exit ?_ | refine andThen_ret ?_ | refine inBlock_normal ?_ | refine inBlock_ret ?_ | refine inBlock_here ?_ | refine inBlock_out rfl ?_ | refine LWp.seq ?_ | refine LWp.region ?_ | refine LWp.block ?_ | refine LWp.exit ?_ | refine LWp.ret ?_ | refine LWp.skip ?_ | refine LOps.valA ?_ | refine LOps.outA ?_ | refine LOps.whenA ?_ | refine LOps.pickA ?_ | refine LOps.storeA ?_)
    · repeat (first | refine LOps.nil ?_ | refine andThen_normal ?_ | refine andThen_exit ?_ | refine andThen_ret ?_ | refine inBlock_normal ?_ | refine inBlock_ret ?_ | refine inBlock_here ?_ | refine inBlock_out rfl ?_ | refine LWp.seq ?_ | refine LWp.region ?_ | refine LWp.block ?_ | refine LWp.exit ?_ | refine LWp.ret ?_ | refine LWp.skip ?_ | refine LOps.valA ?_ | refine LOps.outA ?_ | refine LOps.whenA ?_ | refine LOps.pickA ?_ | refine LOps.storeA ?_)
      refine LWp.loop (fun m T S3 => ∃ (T' : Nat → TV) (q : Nat) (F : Nat → Prop) (k : Nat) (ks : Kv Int), q ≤ 256 ∧ m = 256 - q ∧ Pair S S3 F b w k ks ∧ S3.box b6 = some (actL l[j]) ∧ ¬ F b6 ∧ T = over T' [(0, .one (.sl .sh (l.map actL))), (3, ptr b), (4, ptr w), (5, .one (iv (j : Nat))), (6, ptr b6), (7, .one (iv (q : Nat)))]) 256 ?_ ?_
      · exact ⟨_, 0, F, k, ks, by omega, rfl, hPr, k6, nF6, holds.over ⟨rfl, rfl, rfl, rfl, rfl, rfl, trivial⟩⟩
      clear hPr k6 nF6 S2 F k ks
      rintro m T S2 ⟨T', q, F, k, ks, hq, rfl, hPr, k6, nF6, rfl⟩
      have ew : IntKind.i64.wrap ((l[j].more : Nat) : Int) = ((l[j].more : Nat) : Int) := wrap64_small (by omega)
      have ewb : IntKind.i64.wrap ((l[j].b : Nat) : Int) = ((l[j].b : Nat) : Int) := wrap64_small (by omega)
      repeat (first | refine LOps.valH (r := .one (iv (l[j].more : Nat))) (LVal.to (LVal.convInt hD rfl rfl rfl rfl rfl) (by rw [ew])) ?_ | refine LOps.nil ?_ | refine andThen_normal ?_ | refine andThen_exit ?_ | refine andThen_ret ?_ | refine inBlock_normal ?_ | refine inBlock_ret ?_ | refine inBlock_here ?_ | refine inBlock_out rfl ?_ | refine LWp.seq ?_ | refine LWp.region ?_ | refine LWp.block ?_ | refine LWp.exit ?_ | refine LWp.ret ?_ | refine LWp.skip ?_ | refine LOps.valA ?_ | refine LOps.outA ?_ | refine LOps.whenA ?_ | refine LOps.pickA ?_ | refine LOps.storeA ?_)
      refine LWp.cond rfl (fun h => ?_) (fun h => ?_)
      · have h : (decide ((q : Int) ≤ ((l[j].more : Nat) : Int)) && decide (((l[j].op : Nat) : Int) < 2)) = true := h
        have hqm : q ≤ l[j].more ∧ l[j].op < 2 := by simp at h; omega
        have hc : (l[j].b + q) % 256 < 256 := Nat.mod_lt _ (by decide)
        have ec : IntKind.u8.wrap (((l[j].b : Nat) : Int) + (q : Int)) = (((l[j].b + q) % 256 : Nat) : Int) := by rw [IntKind.wrap_u8]; omega
        repeat (first | refine LOps.valH (r := .one (iv (l[j].b : Nat))) (LVal.to (LVal.convInt hD rfl rfl rfl rfl rfl) (by rw [ewb])) ?_ | refine LOps.valH (r := .one (uv ((l[j].b + q) % 256 : Nat))) (LVal.to (LVal.convInt hD rfl rfl rfl rfl rfl) (by rw [ec])) ?_ | refine LOps.valH (r := .one (iv (((l[j].b : Nat) : Int) + (q : Int)))) (LVal.add64 rfl rfl rfl (by omega)) ?_ | refine LOps.nil ?_ | refine andThen_normal ?_ | refine andThen_exit ?_ | refine andThen_ret ?_ | refine inBlock_normal ?_ | refine inBlock_ret ?_ | refine inBlock_here ?_ | refine inBlock_out rfl ?_ | refine LWp.seq ?_ | refine LWp.region ?_ | refine LWp.block ?_ | refine LWp.exit ?_ | refine LWp.ret ?_ | refine LWp.skip ?_ | refine LOps.valA ?_ | refine LOps.outA ?_ | refine LOps.whenA ?_ | refine LOps.pickA ?_ | refine LOps.storeA ?_)
        generalize (l[j].b + q) % 256 = c at *
        refine LWp.cond rfl (fun h => ?_) (fun h => ?_)
        · repeat (first | refine LOps.nil ?_ | refine andThen_normal ?_ | refine andThen_exit ?_ | refine andThen_ret ?_ | refine inBlock_normal ?_ | refine inBlock_ret ?_ | refine inBlock_here ?_ | refine inBlock_out rfl ?_ | refine LWp.seq ?_ | refine LWp.region ?_ | refine LWp.block ?_ | refine LWp.exit ?_ | refine LWp.ret ?_ | refine LWp.skip ?_ | refine LOps.valA ?_ | refine LOps.outA ?_ | refine LOps.whenA ?_ | refine LOps.pickA ?_ | refine LOps.storeA ?_)
          refine LOps.do (LDo.callF (setI_L hP hPr.own.node hc _) (by rw [hP]; exact Try.func11)) rfl rfl rfl ?_
          rintro _ S3 ⟨rfl, F3, h3, m3⟩
          have k63 := (m3.box _ _ k6 nF6).1
          have rf3 := hPr.rfAt m3
          repeat (first | refine LOps.nil ?_ | refine andThen_normal ?_ | refine andThen_exit ?_ | refine andThen_ret ?_ | refine inBlock_normal ?_ | refine inBlock_ret ?_ | refine inBlock_here ?_ | refine inBlock_out rfl ?_ | refine LWp.seq ?_ | refine LWp.region ?_ | refine LWp.block ?_ | refine LWp.exit ?_ | refine LWp.ret ?_ | refine LWp.skip ?_ | refine LOps.valA ?_ | refine LOps.outA ?_ | refine LOps.whenA ?_ | refine LOps.pickA ?_ | refine LOps.storeA ?_)
          refine LOps.do (LDo.callF (rset_L hP rf3 hPr.own.node.ok hc _) (by rw [hP]; exact Try.func12)) rfl rfl rfl ?_
          rintro _ S4 ⟨rfl, h4, m4⟩
          obtain ⟨k64, nF64⟩ := Pair.var k6 nF6 n6w m3 m4
          repeat (first | refine LWp.condF rfl ?_ | refine LOps.nil ?_ | refine andThen_normal ?_ | refine andThen_exit ?_ | refine andThen_ret ?_ | refine inBlock_normal ?_ | refine inBlock_ret ?_ | refine inBlock_here ?_ | refine inBlock_out rfl ?_ | refine LWp.seq ?_ | refine LWp.region ?_ | refine LWp.block ?_ | refine LWp.exit ?_ | refine LWp.ret ?_ | refine LWp.skip ?_ | refine LOps.valA ?_ | refine LOps.outA ?_ | refine LOps.whenA ?_ | refine LOps.pickA ?_ | refine LOps.storeA ?_)
          exact ⟨256 - (q + 1), by omega, _, q + 1, F3, _, _, by omega, rfl, hPr.both h3 m3 h4 m4, k64, nF64, holds.over ⟨rfl, rfl, rfl, rfl, rfl, rfl, trivial⟩⟩
        · repeat (first | refine LOps.nil ?_ | refine andThen_normal ?_ | refine andThen_exit ?_ | refine andThen_ret ?_ | refine inBlock_normal ?_ | refine inBlock_ret ?_ | refine inBlock_here ?_ | refine inBlock_out rfl ?_ | refine LWp.seq ?_ | refine LWp.region ?_ | refine LWp.block ?_ | refine LWp.exit ?_ | refine LWp.ret ?_ | refine LWp.skip ?_ | refine LOps.valA ?_ | refine LOps.outA ?_ | refine LOps.whenA ?_ | refine LOps.pickA ?_ | refine LOps.storeA ?_)
          refine LOps.do (LDo.callF (dropI_L hP hPr.own.node hc) (by rw [hP]; exact Try.func13)) rfl rfl rfl ?_
          rintro _ S3 ⟨rfl, F3, h3, m3⟩
          have rf3 := hPr.rfAt m3
          repeat (first | refine LOps.nil ?_ | refine andThen_normal ?_ | refine andThen_exit ?_ | refine andThen_ret ?_ | refine inBlock_normal ?_ | refine inBlock_ret ?_ | refine inBlock_here ?_ | refine inBlock_out rfl ?_ | refine LWp.seq ?_ | refine LWp.region ?_ | refine LWp.block ?_ | refine LWp.exit ?_ | refine LWp.ret ?_ | refine LWp.skip ?_ | refine LOps.valA ?_ | refine LOps.outA ?_ | refine LOps.whenA ?_ | refine LOps.pickA ?_ | refine LOps.storeA ?_)
          refine LOps.do (LDo.callF (rdrop_L hP rf3 hPr.own.node.ok hc) (by rw [hP]; exact Try.func14)) rfl rfl rfl ?_
          rintro _ S4 ⟨rfl, h4, m4⟩
          obtain ⟨k64, nF64⟩ := Pair.var k6 nF6 n6w m3 m4
          repeat (first | refine LWp.condF rfl ?_ | refine LOps.nil ?_ | refine andThen_normal ?_ | refine andThen_exit ?_ | refine andThen_ret ?_ | refine inBlock_normal ?_ | refine inBlock_ret ?_ | refine inBlock_here ?_ | refine inBlock_out rfl ?_ | refine LWp.seq ?_ | refine LWp.region ?_ | refine LWp.block ?_ | refine LWp.exit ?_ | refine LWp.ret ?_ | refine LWp.skip ?_ | refine LOps.valA ?_ | refine LOps.outA ?_ | refine LOps.whenA ?_ | refine LOps.pickA ?_ | refine LOps.storeA ?_)
          exact ⟨256 - (q + 1), by omega, _, q + 1, F3, _, _, by omega, rfl, hPr.both h3 m3 h4 m4, k64, nF64, holds.over ⟨rfl, rfl, rfl, rfl, rfl, rfl, trivial⟩⟩
      · repeat (first | refine LOps.nil ?_ | refine andThen_normal ?_ | refine andThen_exit ?_ | refine andThen_ret ?_ | refine inBlock_normal ?_ | refine inBlock_ret ?_ | refine inBlock_here ?_ | refine inBlock_out rfl ?_ | refine LWp.seq ?_ | refine LWp.region ?_ | refine LWp.block ?_ | refine LWp.exit ?_ | refine LWp.ret ?_ | refine LWp.skip ?_ | refine LOps.valA ?_ | refine LOps.outA ?_ | refine LOps.whenA ?_ | refine LOps.pickA ?_ | refine LOps.storeA ?_)
        exact ⟨_, F, k, ks, hPr, k6, nF6, holds.over ⟨rfl, rfl, rfl, rfl, rfl, trivial⟩⟩
    clear hPr k6 nF6 S2 F k ks
    rintro T1 S2 ⟨T2, F, k, ks, hPr, k6, nF6, rfl⟩
    repeat (first | refine LWp.seq (LWp.cut 22 (fun T1 S3 => S3 = S2 ∧ ∃ (T2 : Nat → TV), T1 = over T2 [(0, .one (.sl .sh (l.map actL))), (3, ptr b), (4, ptr w), (5, .one (iv (j : Nat)))]) rfl ?_ ?_) | refine LOps.nil ?_ | refine andThen_normal ?_ | refine andThen_exit ?_ | refine andThen_ret ?_ | refine inBlock_normal ?_ | refine inBlock_ret ?_ | refine inBlock_here ?_ | refine inBlock_out rfl ?_ | refine LWp.seq ?_ | refine LWp.region ?_ | refine LWp.block ?_ | refine LWp.exit ?_ | refine LWp.ret ?_ | refine LWp.skip ?_ | refine LOps.valA ?_ | refine LOps.outA ?_ | refine LOps.whenA ?_ | refine LOps.pickA ?_ | refine LOps.storeA ?_)
    · repeat (first | refine LOps.nil ?_ | refine andThen_normal ?_ | refine andThen_exit ?_ | refine andThen_ret ?_ | refine inBlock_normal ?_ | refine inBlock_ret ?_ | refine inBlock_here ?_ | refine inBlock_out rfl ?_ | refine LWp.seq ?_ | refine LWp.region ?_ | refine LWp.block ?_ | refine LWp.exit ?_ | refine LWp.ret ?_ | refine LWp.skip ?_ | refine LOps.valA ?_ | refine LOps.outA ?_ | refine LOps.whenA ?_ | refine LOps.pickA ?_ | refine LOps.storeA ?_)
      refine LWp.cond rfl (fun h => ?_) (fun h => ?_)
      · have c1 := nodeI_from hP hPr.own.node l[j].n
        have c2 := rfrom_L hP hPr.rf l[j].n
        cases hq : fromL ks l[j].n with
        | none =>
          rw [hq] at c1 c2
          repeat (first | refine LOps.valH (r := .tup [.one (uv 0), .one (iv 0), .one (bv false)]) (LVal.callS c1 (by rw [hP]; exact Try.func15) rfl rfl rfl (by decide)) ?_ | refine LOps.valH (r := .tup [.one (uv 0), .one (iv 0), .one (bv false)]) (LVal.callS c2 (by rw [hP]; exact Try.func16) rfl rfl rfl (by decide)) ?_ | refine LWp.condF rfl ?_ | refine LOps.nil ?_ | refine andThen_normal ?_ | refine andThen_exit ?_ | refine andThen_ret ?_ | refine inBlock_normal ?_ | refine inBlock_ret ?_ | refine inBlock_here ?_ | refine inBlock_out rfl ?_ | refine LWp.seq ?_ | refine LWp.region ?_ | refine LWp.block ?_ | refine LWp.exit ?_ | refine LWp.ret ?_ | refine LWp.skip ?_ | refine LOps.valA ?_ | refine LOps.outA ?_ | refine LOps.whenA ?_ | refine LOps.pickA ?_ | refine LOps.storeA ?_)
          exact ⟨rfl, _, holds.over ⟨rfl, rfl, rfl, rfl, trivial⟩⟩
        | some p =>
          rw [hq] at c1 c2
          repeat (first | refine LOps.valH (r := .tup [.one (uv (p.1 : Nat)), .one (iv p.2), .one (bv true)]) (LVal.callS c1 (by rw [hP]; exact Try.func15) rfl rfl rfl (by decide)) ?_ | refine LOps.valH (r := .tup [.one (uv (p.1 : Nat)), .one (iv p.2), .one (bv true)]) (LVal.callS c2 (by rw [hP]; exact Try.func16) rfl rfl rfl (by decide)) ?_ | refine LWp.condF rfl ?_ | refine LOps.nil ?_ | refine andThen_normal ?_ | refine andThen_exit ?_ | refine andThen_ret ?_ | refine inBlock_normal ?_ | refine inBlock_ret ?_ | refine inBlock_here ?_ | refine inBlock_out rfl ?_ | refine LWp.seq ?_ | refine LWp.region ?_ | refine LWp.block ?_ | refine LWp.exit ?_ | refine LWp.ret ?_ | refine LWp.skip ?_ | refine LOps.valA ?_ | refine LOps.outA ?_ | refine LOps.whenA ?_ | refine LOps.pickA ?_ | refine LOps.storeA ?_)
          exact ⟨rfl, _, holds.over ⟨rfl, rfl, rfl, rfl, trivial⟩⟩
      · repeat (first | refine LOps.nil ?_ | refine andThen_normal ?_ | refine andThen_exit ?_ | refine andThen_ret ?_ | refine inBlock_normal ?_ | refine inBlock_ret ?_ | refine inBlock_here ?_ | refine inBlock_out rfl ?_ | refine LWp.seq ?_ | refine LWp.region ?_ | refine LWp.block ?_ | refine LWp.exit ?_ | refine LWp.ret ?_ | refine LWp.skip ?_ | refine LOps.valA ?_ | refine LOps.outA ?_ | refine LOps.whenA ?_ | refine LOps.pickA ?_ | refine LOps.storeA ?_)
        exact ⟨rfl, _, holds.over ⟨rfl, rfl, rfl, rfl, trivial⟩⟩
    rintro T1 S2 ⟨rfl, T3, rfl⟩
    repeat (first | refine LOps.nil ?_ | refine andThen_normal ?_ | refine andThen_exit ?_ | refine andThen_ret ?_ | refine inBlock_normal ?_ | refine inBlock_ret ?_ | refine inBlock_here ?_ | refine inBlock_out rfl ?_ | refine LWp.seq ?_ | refine LWp.region ?_ | refine LWp.block ?_ | refine LWp.exit ?_ | refine LWp.ret ?_ | refine LWp.skip ?_ | refine LOps.valA ?_ | refine LOps.outA ?_ | refine LOps.whenA ?_ | refine LOps.pickA ?_ | refine LOps.storeA ?_)
    refine LOps.do (LDo.callF (alike_L hP hPr.own.node hPr.rf) (by rw [hP]; exact Try.func17)) rfl rfl rfl ?_
    rintro _ S3 ⟨rfl, le3⟩
    repeat (first | refine LWp.condF rfl ?_ | refine LOps.nil ?_ | refine andThen_normal ?_ | refine andThen_exit ?_ | refine andThen_ret ?_ | refine inBlock_normal ?_ | refine inBlock_ret ?_ | refine inBlock_here ?_ | refine inBlock_out rfl ?_ | refine LWp.seq ?_ | refine LWp.region ?_ | refine LWp.block ?_ | refine LWp.exit ?_ | refine LWp.ret ?_ | refine LWp.skip ?_ | refine LOps.valA ?_ | refine LOps.outA ?_ | refine LOps.whenA ?_ | refine LOps.pickA ?_ | refine LOps.storeA ?_)
    exact ⟨l.length - (j + 1), by omega, _, j + 1, F, k, ks, by omega, rfl, hPr.le le3, holds.over ⟨rfl, rfl, rfl, rfl, trivial⟩⟩
  · repeat (first | refine LOps.nil ?_ | refine andThen_normal ?_ | refine andThen_exit ?_ | refine andThen_ret ?_ | refine inBlock_normal ?_ | refine inBlock_ret ?_ | refine inBlock_here ?_ | refine inBlock_out rfl ?_ | refine LWp.seq ?_ | refine LWp.region ?_ | refine LWp.block ?_ | refine LWp.exit ?_ | refine LWp.ret ?_ | refine LWp.skip ?_ | refine LOps.valA ?_ | refine LOps.outA ?_ | refine LOps.whenA ?_ | refine LOps.pickA ?_ | refine LOps.storeA ?_)
    refine LOps.do (LDo.callF (wakes_L hP _) (by rw [hP]; exact Try.func8)) rfl rfl rfl ?_
    rintro _ S2 ⟨rfl, _⟩
    repeat (first | refine LOps.nil ?_ | refine andThen_normal ?_ | refine andThen_exit ?_ | refine andThen_ret ?_ | refine inBlock_normal ?_ | refine inBlock_ret ?_ | refine inBlock_here ?_ | refine inBlock_out rfl ?_ | refine LWp.seq ?_ | refine LWp.region ?_ | refine LWp.block ?_ | refine LWp.exit ?_ | refine LWp.ret ?_ | refine LWp.skip ?_ | refine LOps.valA ?_ | refine LOps.outA ?_ | refine LOps.whenA ?_ | refine LOps.pickA ?_ | refine LOps.storeA ?_)
    exact ⟨_, LRes.one rfl, rfl⟩
end Go.Proofs.Ytinbibeapooghaa.LF

namespace Go.Proofs.Ytinbibeapooghaa
open Go.RowKit LF
theorem artnodePlays_walk (W : World) (v0 : Value) (l0 : List LV) (y0 : Typed LF.D 22 l0) (g0 : RepT (G0 Try.prog W) W (allCells W) (argTV ti22 l0) v0) :
    Calls Try.prog 3 #[v0] W fun e W' => e = .returned (.bool true) ∧ Below W.heap.size W W' := by
  obtain ⟨l, rfl, hl⟩ := typed_acts y0
  exact law_calls (fun G S h => plays_L h l hl S) (.cons (vs := []) g0 .nil)
end Go.Proofs.Ytinbibeapooghaa
