/- Children in two sorted slices (up to 16), of type int: get, set, drop, from. (Printed by gen_art.py.) -/
import Derived.Test.YtinbibeapooghaaLAb
import Derived.Test.YtinbibeapooghaaLPt
import Derived.Test.YtinbibeapooghaaLIf
import Derived.Test.YtinbibeapooghaaLAm
import Derived.Test.YtinbibeapooghaaLIsB
import Derived.Test.YtinbibeapooghaaLIsI
set_option linter.unusedVariables false
set_option linter.unusedSimpArgs false
namespace Go.Proofs.Ytinbibeapooghaa.LF
open Go.RowKit
set_option linter.unusedVariables false
attribute [local irreducible] andThen inBlock LWp LOps LCalls

def kidI (p : Nat × Int) : List LV := [iv p.2]
theorem kidI_len (p : Nat × Int) : (kidI p).length = 1 := rfl
def fromI : Option (Nat × Int) → TV
  | some p => .tup [.one (uv (p.1 : Nat)), .one (iv p.2), .one (bv true)]
  | none => .tup [.one (uv 0), .one (iv 0), .one (bv false)]
def getI (l : Kv Int) (b : Nat) : TV := .tup [.one (iv ((lk l b).getD 0)), .one (bv (hasK l b))]

/-- The two slices, and where they stand. -/
structure SoI (S : LS) (bs : Nat) (A B : LV) (l : Kv Int) : Prop where
  box : S.box bs = some [A, B]
  ka : SlAt keyL 1 S A l
  kb : SlAt kidI 1 S B l
  na : blockOf A ≠ some bs
  nb : blockOf B ≠ some bs
  ab : ∀ r, blockOf A = some r → blockOf B ≠ some r
  ks : KS l

set_option maxHeartbeats 2000000 in
theorem soI_get {G : Ctx} (hP : G.P = Try.prog) {S : LS} {bs : Nat} {A B : LV} {l : Kv Int} (h : SoI S bs A B l) (b : Nat) :
    LCalls G 54 [ptr bs, .one (uv (b : Nat))] (fun r S' => r = getI l b ∧ S' = S) S := by
  have hD : TabOK G.P D := by rw [hP]; exact hD0
  have hb := h.box
  have hle := posK_le l b
  have hlen := h.ks.len
  refine LCalls.enter (fn := Try.f54) (by rw [hP]; exact Try.func54) rfl rfl ?_
  repeat (first | refine LOps.nil ?_ | refine andThen_normal ?_ | refine andThen_exit ?_ | refine andThen_ret ?_ | refine inBlock_normal ?_ | refine inBlock_ret ?_ | refine inBlock_here ?_ | refine inBlock_out rfl ?_ | refine LWp.seq ?_ | refine LWp.region ?_ | refine LWp.block ?_ | refine LWp.exit ?_ | refine LWp.ret ?_ | refine LWp.skip ?_ | refine LOps.valA ?_ | refine LOps.outA ?_ | refine LOps.whenA ?_ | refine LOps.pickA ?_ | refine LOps.storeA ?_)
  refine LOps.val (LVal.callAny (fun G' e => bs_F (G := G') (by rw [e]; exact hP) l h.ks b) rfl rfl (by rw [hP]; exact Try.func56) rfl (by decide) ⟨.one (h.ka.view keyL_len), .one (.same _), trivial⟩) rfl rfl rfl ?_
  repeat (first | refine LOps.nil ?_ | refine andThen_normal ?_ | refine andThen_exit ?_ | refine andThen_ret ?_ | refine inBlock_normal ?_ | refine inBlock_ret ?_ | refine inBlock_here ?_ | refine inBlock_out rfl ?_ | refine LWp.seq ?_ | refine LWp.region ?_ | refine LWp.block ?_ | refine LWp.exit ?_ | refine LWp.ret ?_ | refine LWp.skip ?_ | refine LOps.valA ?_ | refine LOps.outA ?_ | refine LOps.whenA ?_ | refine LOps.pickA ?_ | refine LOps.storeA ?_)
  refine LWp.cond rfl (fun hh => ?_) (fun hh => ?_)
  · have hk : hasK l b = false := by simpa using hh
    have hn : lk l b = none := by simpa [hasK] using hk
    repeat (first | refine LOps.nil ?_ | refine andThen_normal ?_ | refine andThen_exit ?_ | refine andThen_ret ?_ | refine inBlock_normal ?_ | refine inBlock_ret ?_ | refine inBlock_here ?_ | refine inBlock_out rfl ?_ | refine LWp.seq ?_ | refine LWp.region ?_ | refine LWp.block ?_ | refine LWp.exit ?_ | refine LWp.ret ?_ | refine LWp.skip ?_ | refine LOps.valA ?_ | refine LOps.outA ?_ | refine LOps.whenA ?_ | refine LOps.pickA ?_ | refine LOps.storeA ?_)
    refine ⟨_, LRes.two rfl, ?_, rfl⟩
    show TV.tup [.one (iv 0), .one (bv false)] = _
    rw [getI, hn, hk]; rfl
  · have hk : hasK l b = true := by simpa using hh
    obtain ⟨hlt, h1, h2⟩ := hasK_at h.ks hk
    obtain ⟨r, c, rest, rfl, hrow⟩ := h.kb.row_of (by omega)
    have hbr := hrow.box
    repeat (first | refine LOps.valH (LVal.indexR hD rfl rfl rfl rfl rfl rfl (by omega) (by omega)) ?_ | refine LOps.valH (LVal.load (r := .one (iv l[posK l b].2)) hD rfl rfl hbr rfl (by rw [Nat.zero_add, Int.toNat_natCast]; exact rd_cells kidI_len hlt rfl)) ?_ | refine LOps.nil ?_ | refine andThen_normal ?_ | refine andThen_exit ?_ | refine andThen_ret ?_ | refine inBlock_normal ?_ | refine inBlock_ret ?_ | refine inBlock_here ?_ | refine inBlock_out rfl ?_ | refine LWp.seq ?_ | refine LWp.region ?_ | refine LWp.block ?_ | refine LWp.exit ?_ | refine LWp.ret ?_ | refine LWp.skip ?_ | refine LOps.valA ?_ | refine LOps.outA ?_ | refine LOps.whenA ?_ | refine LOps.pickA ?_ | refine LOps.storeA ?_)
    refine ⟨_, LRes.two rfl, ?_, rfl⟩
    show TV.tup [.one (iv l[posK l b].2), .one (bv true)] = _
    rw [getI, h2, hk]; rfl

theorem SoI.off {S : LS} {bs : Nat} {A B : LV} {l : Kv Int} (h : SoI S bs A B l) {S' : LS} (k : ∀ c cs, FSb bs A B c → S.box c = some cs → S'.box c = some cs) : SoI S' bs A B l :=
  ⟨k _ _ (.inl rfl) h.box, h.ka.keepB fun c cs e hc => k c cs (.inr (.inl e)) hc, h.kb.keepB fun c cs e hc => k c cs (.inr (.inr e)) hc, h.na, h.nb, h.ab, h.ks⟩

set_option maxHeartbeats 4000000 in
set_option maxRecDepth 20000 in
theorem soI_set {G : Ctx} (hP : G.P = Try.prog) {S : LS} {bs : Nat} {A B : LV} {l : Kv Int} (h : SoI S bs A B l) {b : Nat} (hb256 : b < 256) (x : Int) :
    LCalls G 55 [ptr bs, .one (uv (b : Nat)), .one (iv x)] (fun r S' => ∃ A' B', SoI S' bs A' B' (setL l b x) ∧ MvF S (FSb bs A B) S' (FSb bs A' B')) S := by
  have hD : TabOK G.P D := by rw [hP]; exact hD0
  have hb := h.box
  have hle := posK_le l b
  have hlen := h.ks.len
  refine LCalls.enter (fn := Try.f55) (by rw [hP]; exact Try.func55) rfl rfl ?_
  repeat (first | refine LOps.nil ?_ | refine andThen_normal ?_ | refine andThen_exit ?_ | refine andThen_ret ?_ | refine inBlock_normal ?_ | refine inBlock_ret ?_ | refine inBlock_here ?_ | refine inBlock_out rfl ?_ | refine LWp.seq ?_ | refine LWp.region ?_ | refine LWp.block ?_ | refine LWp.exit ?_ | refine LWp.ret ?_ | refine LWp.skip ?_ | refine LOps.valA ?_ | refine LOps.outA ?_ | refine LOps.whenA ?_ | refine LOps.pickA ?_ | refine LOps.storeA ?_)
  refine LOps.val (LVal.callAny (fun G' e => bs_F (G := G') (by rw [e]; exact hP) l h.ks b) rfl rfl (by rw [hP]; exact Try.func56) rfl (by decide) ⟨.one (h.ka.view keyL_len), .one (.same _), trivial⟩) rfl rfl rfl ?_
  repeat (first | refine LOps.nil ?_ | refine andThen_normal ?_ | refine andThen_exit ?_ | refine andThen_ret ?_ | refine inBlock_normal ?_ | refine inBlock_ret ?_ | refine inBlock_here ?_ | refine inBlock_out rfl ?_ | refine LWp.seq ?_ | refine LWp.region ?_ | refine LWp.block ?_ | refine LWp.exit ?_ | refine LWp.ret ?_ | refine LWp.skip ?_ | refine LOps.valA ?_ | refine LOps.outA ?_ | refine LOps.whenA ?_ | refine LOps.pickA ?_ | refine LOps.storeA ?_)
  refine LWp.cond rfl (fun hk => ?_) (fun hk => ?_)
  · have hk : hasK l b = true := hk
    obtain ⟨hlt, h1, h2⟩ := hasK_at h.ks hk
    obtain ⟨r, c, rest, rfl, hrow⟩ := h.kb.row_of (by omega)
    have hbr := hrow.box
    have hrl := hrow.len kidI_len
    have hcap := hrow.cap
    repeat (first | refine LOps.valH (r := .one (.v (.pointer (some ⟨r, posK l b * 1, none⟩)))) (LVal.to (LVal.indexR hD rfl rfl rfl rfl rfl rfl (by omega) (by omega)) (by rw [Nat.zero_add, Int.toNat_natCast]; rfl)) ?_ | refine LOps.nil ?_ | refine andThen_normal ?_ | refine andThen_exit ?_ | refine andThen_ret ?_ | refine inBlock_normal ?_ | refine inBlock_ret ?_ | refine inBlock_here ?_ | refine inBlock_out rfl ?_ | refine LWp.seq ?_ | refine LWp.region ?_ | refine LWp.block ?_ | refine LWp.exit ?_ | refine LWp.ret ?_ | refine LWp.skip ?_ | refine LOps.valA ?_ | refine LOps.outA ?_ | refine LOps.whenA ?_ | refine LOps.pickA ?_ | refine LOps.storeA ?_)
    refine LOps.do0 (LDo.store hD rfl rfl hbr rfl rfl rfl (by rw [Nat.ble_eq]; show posK l b * 1 + 1 ≤ _; rw [hrl]; omega)) rfl rfl ?_
    rintro _ _ ⟨rfl, rfl⟩
    rw [set_cells (x := (b, x)) (A := []) (y := [iv l[posK l b].2]) (y' := [iv x]) (B := []) kidI_len hlt rfl rfl rfl (by simp)]
    have nrb : r ≠ bs := fun e => h.nb (by rw [e]; rfl)
    repeat (first | refine LOps.nil ?_ | refine andThen_normal ?_ | refine andThen_exit ?_ | refine andThen_ret ?_ | refine inBlock_normal ?_ | refine inBlock_ret ?_ | refine inBlock_here ?_ | refine inBlock_out rfl ?_ | refine LWp.seq ?_ | refine LWp.region ?_ | refine LWp.block ?_ | refine LWp.exit ?_ | refine LWp.ret ?_ | refine LWp.skip ?_ | refine LOps.valA ?_ | refine LOps.outA ?_ | refine LOps.whenA ?_ | refine LOps.pickA ?_ | refine LOps.storeA ?_)
    refine ⟨_, LRes.none rfl, A, _, ?_, .setBox (.inr (.inr rfl)) _ fun _ hc => hc⟩
    rw [setL_has h.ks hk]
    have hka : SlAt keyL 1 S A (l.set (posK l b) (b, x)) := by
      have hk2 := h.ka
      have e : cellsR keyL (l.set (posK l b) (b, x)) = cellsR keyL l := cellsR_set_same hlt (by rw [keyL, keyL, h1])
      cases hk2 with
      | nil => simp at hlt
      | row r1 c1 _ rest1 hr1 =>
        have := SlAt.row (f := keyL) (z := 1) (S := S) r1 c1 (l.set (posK l b) (b, x)) rest1 ⟨by rw [e]; exact hr1.box, by rw [List.length_set]; exact hr1.room, by rw [List.length_set]; exact hr1.cap⟩
        rw [List.length_set] at this; exact this
    have hkb := SlAt.row (f := kidI) (z := 1) (S := S.setBox r (cellsR kidI (l.set (posK l b) (b, x)) ++ rest)) r c (l.set (posK l b) (b, x)) rest ⟨box_set _ _ _, by rw [List.length_set]; exact hrow.room, by rw [List.length_set]; exact hrow.cap⟩
    rw [List.length_set] at hkb
    refine ⟨(box_set_ne _ _ nrb.symm).trans hb, hka.keepB fun d cs e hc => (box_set_ne _ _ fun e2 => h.ab d e (by rw [e2]; rfl)).trans hc, hkb, h.na, h.nb, h.ab, ?_⟩
    rw [← setL_has h.ks hk]
    exact h.ks.set hb256 x
  · have hk : hasK l b = false := hk
    repeat (first | refine LOps.nil ?_ | refine andThen_normal ?_ | refine andThen_exit ?_ | refine andThen_ret ?_ | refine inBlock_normal ?_ | refine inBlock_ret ?_ | refine inBlock_here ?_ | refine inBlock_out rfl ?_ | refine LWp.seq ?_ | refine LWp.region ?_ | refine LWp.block ?_ | refine LWp.exit ?_ | refine LWp.ret ?_ | refine LWp.skip ?_ | refine LOps.valA ?_ | refine LOps.outA ?_ | refine LOps.whenA ?_ | refine LOps.pickA ?_ | refine LOps.storeA ?_)
    refine LWp.drawF (fun q c => blockOf A = some c ∨ blockOf B = some c ∨ (q = 1 ∧ c = bs)) [0, 1, 2, 3, 4, 5, 6, 7, 8, 10, 11, 12, 13, 14, 15, 16, 9, 17, 18, 19, 20, 21, 22, 23] (by rw [hP]; rfl) rfl ?_
    repeat (first | refine LRl.val (r := .one A) (fun _ hS => LVal.load hD rfl rfl (hS.box _ _ hb (by rintro (e | e | e); exact h.na e; exact h.nb e; exact absurd e.1 (by decide))) rfl rfl) rfl rfl rfl ?_ | refine LRl.val (r := .one B) (fun _ hS => LVal.load hD rfl rfl (hS.box _ _ hb (by rintro (e | e | e); exact h.na e; exact h.nb e; exact absurd e.1 (by decide))) rfl rfl) rfl rfl rfl ?_ | refine LRl.val (fun _ _ => LVal.buildSlice1 hD rfl rfl rfl rfl rfl rfl rfl rfl rfl rfl) rfl rfl rfl ?_ | refine LRl.nil ?_ | refine LRl.valA ?_ | refine LRl.outA ?_ | refine LRl.whenA ?_ | refine LRl.pickA ?_)
    refine LRl.actA (LDo.callX (insSB_L hP keyL_len l hle (b, x) A _ h.ka (by omega)) (by rw [hP]; exact Try.func59)).toAct rfl rfl rfl rfl (by rintro _ _ ⟨A', rfl, hA', mv⟩ q _; exact .inl ⟨fun c cs hc hn => (mv.box c cs hc fun e => hn (.inl e)).1, fun c o hc => mv.obj c o hc⟩) ?_
    rintro _ S1 ⟨A', rfl, hA', mv1⟩
    have hB1 : SlAt kidI 1 S1 B l := h.kb.keep mv1 fun c e e2 => h.ab c e2 e
    obtain ⟨hb1, na1⟩ := mv1.box bs _ hb h.na
    have ab1 : ∀ c, blockOf B = some c → blockOf A' ≠ some c := fun c hc => by
      obtain ⟨cs, hcs⟩ := h.kb.block c hc
      exact (mv1.box c cs hcs fun e => h.ab c e hc).2
    refine LRl.actA (LDo.callX (insSI_L hP kidI_len l hle (b, x) B _ hB1 (by omega)) (by rw [hP]; exact Try.func60)).toAct rfl rfl rfl rfl (by rintro _ _ ⟨B', rfl, hB', mv⟩ q _; exact .inl ⟨fun c cs hc hn => (mv.box c cs hc fun e => hn (.inr (.inl e))).1, fun c o hc => mv.obj c o hc⟩) ?_
    rintro _ S2 ⟨B', rfl, hB', mv2⟩
    obtain ⟨hb2, nb2⟩ := mv2.box bs _ hb1 h.nb
    have hA2 : SlAt keyL 1 S2 A' (insL l (posK l b) (b, x)) := hA'.keep mv2 fun c e e2 => ab1 c e2 e
    have ab2 : ∀ c, blockOf A' = some c → blockOf B' ≠ some c := fun c hc => by
      obtain ⟨cs, hcs⟩ := hA'.block c hc
      exact (mv2.box c cs hcs fun e => ab1 c e hc).2
    have mvb : MvF S (FSb bs A B) (S2) (FSb bs A' B') := ⟨fun c cs hc hn => by
      obtain ⟨h1, h2⟩ := mv1.box c cs hc fun e => hn (.inr (.inl e))
      obtain ⟨h3, h4⟩ := mv2.box c cs h1 fun e => hn (.inr (.inr e))
      exact ⟨h3, fun e => by
        rcases e with e | e | e
        · exact hn (.inl e)
        · exact h2 e
        · exact h4 e⟩, fun c y hc => mv2.row c y (mv1.row c y hc), fun c y hc => mv2.obj c y (mv1.obj c y hc), Nat.le_trans mv1.top mv2.top⟩
    clear hA' mv1 hB1 hb1 mv2
    repeat (first | refine LRl.nil ?_ | refine LRl.valA ?_ | refine LRl.outA ?_ | refine LRl.whenA ?_ | refine LRl.pickA ?_)
    refine LRl.actA0 (LDo.store hD rfl rfl hb2 rfl rfl rfl rfl).toAct rfl rfl rfl (by
      rintro _ _ ⟨rfl, rfl⟩ q hq
      rcases (by omega : q = 0 ∨ q = 1 ∨ q = 2 ∨ q = 3 ∨ q = 4 ∨ q = 5 ∨ q = 6 ∨ q = 7 ∨ q = 8 ∨ q = 9 ∨ q = 10 ∨ q = 11 ∨ q = 12 ∨ q = 13 ∨ q = 14 ∨ q = 15 ∨ q = 16 ∨ q = 17 ∨ q = 18 ∨ q = 19) with h | h | h | h | h | h | h | h | h | h | h | h | h | h | h | h | h | h | h | h <;> subst h <;> first | exact .inr rfl | exact .inl (LS.leX.setBox (.inr (.inr ⟨rfl, rfl⟩)) _)) ?_
    rintro _ _ ⟨rfl, rfl⟩
    have hb3 : (S2.setBox bs (splice [A, B] 0 [A'])).box bs = some [A', B] := (box_set _ _ _).trans rfl
    repeat (first | refine LRl.nil ?_ | refine LRl.valA ?_ | refine LRl.outA ?_ | refine LRl.whenA ?_ | refine LRl.pickA ?_)
    refine LRl.actA0 (LDo.store hD rfl rfl hb3 rfl rfl rfl rfl).toAct rfl rfl rfl (by
      rintro _ _ ⟨rfl, rfl⟩ q hq
      rcases (by omega : q = 0 ∨ q = 1 ∨ q = 2 ∨ q = 3 ∨ q = 4 ∨ q = 5 ∨ q = 6 ∨ q = 7 ∨ q = 8 ∨ q = 9 ∨ q = 10 ∨ q = 11 ∨ q = 12 ∨ q = 13 ∨ q = 14 ∨ q = 15 ∨ q = 16 ∨ q = 17 ∨ q = 18 ∨ q = 19 ∨ q = 20 ∨ q = 21 ∨ q = 22) with h | h | h | h | h | h | h | h | h | h | h | h | h | h | h | h | h | h | h | h | h | h | h <;> subst h <;> first | exact .inr rfl | exact .inl (LS.leX.setBox (.inr (.inr ⟨rfl, rfl⟩)) _)) ?_
    rintro _ _ ⟨rfl, rfl⟩
    repeat (first | refine LRl.nil ?_ | refine LRl.valA ?_ | refine LRl.outA ?_ | refine LRl.whenA ?_ | refine LRl.pickA ?_)
    repeat (first | refine LOps.nil ?_ | refine andThen_normal ?_ | refine andThen_exit ?_ | refine andThen_ret ?_ | refine inBlock_normal ?_ | refine inBlock_ret ?_ | refine inBlock_here ?_ | refine inBlock_out rfl ?_ | refine LWp.seq ?_ | refine LWp.region ?_ | refine LWp.block ?_ | refine LWp.exit ?_ | refine LWp.ret ?_ | refine LWp.skip ?_ | refine LOps.valA ?_ | refine LOps.outA ?_ | refine LOps.whenA ?_ | refine LOps.pickA ?_ | refine LOps.storeA ?_)
    rw [setL_new h.ks hk]
    refine ⟨_, LRes.none rfl, A', B', ⟨(box_set _ _ _).trans rfl, hA2.keepB fun c cs e hc => (box_set_ne _ _ fun e2 => na1 (by rw [← e2]; exact e)).trans ((box_set_ne _ _ fun e2 => na1 (by rw [← e2]; exact e)).trans hc), hB'.keepB fun c cs e hc => (box_set_ne _ _ fun e2 => nb2 (by rw [← e2]; exact e)).trans ((box_set_ne _ _ fun e2 => nb2 (by rw [← e2]; exact e)).trans hc), na1, nb2, ab2, ?_⟩, (mvb.trans (.setBox (.inl rfl) _ fun _ hc => hc)).trans (.setBox (.inl rfl) _ fun _ hc => hc)⟩
    rw [← setL_new h.ks hk]
    exact h.ks.set hb256 x

set_option maxHeartbeats 4000000 in
set_option maxRecDepth 20000 in
theorem soI_drop {G : Ctx} (hP : G.P = Try.prog) {S : LS} {bs : Nat} {A B : LV} {l : Kv Int} (h : SoI S bs A B l) (b : Nat) (hk : hasK l b = true) :
    LCalls G 52 [ptr bs, .one (uv (b : Nat))] (fun r S' => ∃ A' B', SoI S' bs A' B' (delL l b) ∧ MvF S (FSb bs A B) S' (FSb bs A' B')) S := by
  have hD : TabOK G.P D := by rw [hP]; exact hD0
  have hb := h.box
  have hlen := h.ks.len
  obtain ⟨hle, _, _⟩ := hasK_at h.ks hk
  have hbs : ∀ G' : Ctx, G'.P = G.P → LFun G' 56 [.one (.sl .sh (l.map keyL)), .one (uv (b : Nat))] (.tup [.one (iv (posK l b : Nat)), .one (bv true)]) := fun G' e => by
    have := bs_F (G := G') (by rw [e]; exact hP) l h.ks b
    rw [hk] at this; exact this
  refine LCalls.enter (fn := Try.f52) (by rw [hP]; exact Try.func52) rfl rfl ?_
  repeat (first | refine LOps.nil ?_ | refine andThen_normal ?_ | refine andThen_exit ?_ | refine andThen_ret ?_ | refine inBlock_normal ?_ | refine inBlock_ret ?_ | refine inBlock_here ?_ | refine inBlock_out rfl ?_ | refine LWp.seq ?_ | refine LWp.region ?_ | refine LWp.block ?_ | refine LWp.exit ?_ | refine LWp.ret ?_ | refine LWp.skip ?_ | refine LOps.valA ?_ | refine LOps.outA ?_ | refine LOps.whenA ?_ | refine LOps.pickA ?_ | refine LOps.storeA ?_)
  refine LOps.val (LVal.callAny hbs rfl rfl (by rw [hP]; exact Try.func56) rfl (by decide) ⟨.one (h.ka.view keyL_len), .one (.same _), trivial⟩) rfl rfl rfl ?_
  repeat (first | refine LWp.condT rfl ?_ | refine LOps.nil ?_ | refine andThen_normal ?_ | refine andThen_exit ?_ | refine andThen_ret ?_ | refine inBlock_normal ?_ | refine inBlock_ret ?_ | refine inBlock_here ?_ | refine inBlock_out rfl ?_ | refine LWp.seq ?_ | refine LWp.region ?_ | refine LWp.block ?_ | refine LWp.exit ?_ | refine LWp.ret ?_ | refine LWp.skip ?_ | refine LOps.valA ?_ | refine LOps.outA ?_ | refine LOps.whenA ?_ | refine LOps.pickA ?_ | refine LOps.storeA ?_)
  refine LWp.drawF (fun q c => blockOf A = some c ∨ blockOf B = some c ∨ (q = 1 ∧ c = bs)) [0, 1, 2, 3, 4, 5, 6, 7, 8, 10, 11, 12, 13, 14, 15, 16, 9, 17, 18, 19, 20, 21, 22, 23] (by rw [hP]; rfl) rfl ?_
  repeat (first | refine LRl.val (r := .one A) (fun _ hS => LVal.load hD rfl rfl (hS.box _ _ hb (by rintro (e | e | e); exact h.na e; exact h.nb e; exact absurd e.1 (by decide))) rfl rfl) rfl rfl rfl ?_ | refine LRl.val (r := .one B) (fun _ hS => LVal.load hD rfl rfl (hS.box _ _ hb (by rintro (e | e | e); exact h.na e; exact h.nb e; exact absurd e.1 (by decide))) rfl rfl) rfl rfl rfl ?_ | refine LRl.nil ?_ | refine LRl.valA ?_ | refine LRl.outA ?_ | refine LRl.whenA ?_ | refine LRl.pickA ?_)
  refine LRl.actA (LDo.callX (delSB_L hP keyL_len l hle A _ h.ka (by omega)) (by rw [hP]; exact Try.func57)).toAct rfl rfl rfl rfl (by rintro _ _ ⟨A', rfl, hA', mv⟩ q _; exact .inl ⟨fun c cs hc hn => (mv.box c cs hc fun e => hn (.inl e)).1, fun c o hc => mv.obj c o hc⟩) ?_
  rintro _ S1 ⟨A', rfl, hA', mv1⟩
  have hB1 : SlAt kidI 1 S1 B l := h.kb.keep mv1 fun c e e2 => h.ab c e2 e
  obtain ⟨hb1, na1⟩ := mv1.box bs _ hb h.na
  have ab1 : ∀ c, blockOf B = some c → blockOf A' ≠ some c := fun c hc => by
    obtain ⟨cs, hcs⟩ := h.kb.block c hc
    exact (mv1.box c cs hcs fun e => h.ab c e hc).2
  refine LRl.actA (LDo.callX (delSI_L hP kidI_len l hle B _ hB1 (by omega)) (by rw [hP]; exact Try.func58)).toAct rfl rfl rfl rfl (by rintro _ _ ⟨B', rfl, hB', mv⟩ q _; exact .inl ⟨fun c cs hc hn => (mv.box c cs hc fun e => hn (.inr (.inl e))).1, fun c o hc => mv.obj c o hc⟩) ?_
  rintro _ S2 ⟨B', rfl, hB', mv2⟩
  obtain ⟨hb2, nb2⟩ := mv2.box bs _ hb1 h.nb
  have hA2 : SlAt keyL 1 S2 A' (delL' l (posK l b)) := hA'.keep mv2 fun c e e2 => ab1 c e2 e
  have ab2 : ∀ c, blockOf A' = some c → blockOf B' ≠ some c := fun c hc => by
    obtain ⟨cs, hcs⟩ := hA'.block c hc
    exact (mv2.box c cs hcs fun e => ab1 c e hc).2
  have mvb : MvF S (FSb bs A B) (S2) (FSb bs A' B') := ⟨fun c cs hc hn => by
    obtain ⟨h1, h2⟩ := mv1.box c cs hc fun e => hn (.inr (.inl e))
    obtain ⟨h3, h4⟩ := mv2.box c cs h1 fun e => hn (.inr (.inr e))
    exact ⟨h3, fun e => by
      rcases e with e | e | e
      · exact hn (.inl e)
      · exact h2 e
      · exact h4 e⟩, fun c y hc => mv2.row c y (mv1.row c y hc), fun c y hc => mv2.obj c y (mv1.obj c y hc), Nat.le_trans mv1.top mv2.top⟩
  clear hA' mv1 hB1 hb1 mv2
  repeat (first | refine LRl.nil ?_ | refine LRl.valA ?_ | refine LRl.outA ?_ | refine LRl.whenA ?_ | refine LRl.pickA ?_)
  refine LRl.actA0 (LDo.store hD rfl rfl hb2 rfl rfl rfl rfl).toAct rfl rfl rfl (by
    rintro _ _ ⟨rfl, rfl⟩ q hq
    rcases (by omega : q = 0 ∨ q = 1 ∨ q = 2 ∨ q = 3 ∨ q = 4 ∨ q = 5 ∨ q = 6 ∨ q = 7 ∨ q = 8 ∨ q = 9 ∨ q = 10 ∨ q = 11 ∨ q = 12 ∨ q = 13 ∨ q = 14 ∨ q = 15 ∨ q = 16 ∨ q = 17 ∨ q = 18 ∨ q = 19) with h | h | h | h | h | h | h | h | h | h | h | h | h | h | h | h | h | h | h | h <;> subst h <;> first | exact .inr rfl | exact .inl (LS.leX.setBox (.inr (.inr ⟨rfl, rfl⟩)) _)) ?_
  rintro _ _ ⟨rfl, rfl⟩
  have hb3 : (S2.setBox bs (splice [A, B] 0 [A'])).box bs = some [A', B] := (box_set _ _ _).trans rfl
  repeat (first | refine LRl.nil ?_ | refine LRl.valA ?_ | refine LRl.outA ?_ | refine LRl.whenA ?_ | refine LRl.pickA ?_)
  refine LRl.actA0 (LDo.store hD rfl rfl hb3 rfl rfl rfl rfl).toAct rfl rfl rfl (by
    rintro _ _ ⟨rfl, rfl⟩ q hq
    rcases (by omega : q = 0 ∨ q = 1 ∨ q = 2 ∨ q = 3 ∨ q = 4 ∨ q = 5 ∨ q = 6 ∨ q = 7 ∨ q = 8 ∨ q = 9 ∨ q = 10 ∨ q = 11 ∨ q = 12 ∨ q = 13 ∨ q = 14 ∨ q = 15 ∨ q = 16 ∨ q = 17 ∨ q = 18 ∨ q = 19 ∨ q = 20 ∨ q = 21 ∨ q = 22) with h | h | h | h | h | h | h | h | h | h | h | h | h | h | h | h | h | h | h | h | h | h | h <;> subst h <;> first | exact .inr rfl | exact .inl (LS.leX.setBox (.inr (.inr ⟨rfl, rfl⟩)) _)) ?_
  rintro _ _ ⟨rfl, rfl⟩
  repeat (first | refine LRl.nil ?_ | refine LRl.valA ?_ | refine LRl.outA ?_ | refine LRl.whenA ?_ | refine LRl.pickA ?_)
  repeat (first | refine LOps.nil ?_ | refine andThen_normal ?_ | refine andThen_exit ?_ | refine andThen_ret ?_ | refine inBlock_normal ?_ | refine inBlock_ret ?_ | refine inBlock_here ?_ | refine inBlock_out rfl ?_ | refine LWp.seq ?_ | refine LWp.region ?_ | refine LWp.block ?_ | refine LWp.exit ?_ | refine LWp.ret ?_ | refine LWp.skip ?_ | refine LOps.valA ?_ | refine LOps.outA ?_ | refine LOps.whenA ?_ | refine LOps.pickA ?_ | refine LOps.storeA ?_)
  rw [delL_has h.ks hk]
  refine ⟨_, LRes.none rfl, A', B', ⟨(box_set _ _ _).trans rfl, hA2.keepB fun c cs e hc => (box_set_ne _ _ fun e2 => na1 (by rw [← e2]; exact e)).trans ((box_set_ne _ _ fun e2 => na1 (by rw [← e2]; exact e)).trans hc), hB'.keepB fun c cs e hc => (box_set_ne _ _ fun e2 => nb2 (by rw [← e2]; exact e)).trans ((box_set_ne _ _ fun e2 => nb2 (by rw [← e2]; exact e)).trans hc), na1, nb2, ab2, ?_⟩, (mvb.trans (.setBox (.inl rfl) _ fun _ hc => hc)).trans (.setBox (.inl rfl) _ fun _ hc => hc)⟩
  rw [← delL_has h.ks hk]
  exact h.ks.del

set_option maxHeartbeats 2000000 in
theorem soI_from {G : Ctx} (hP : G.P = Try.prog) {S : LS} {bs : Nat} {A B : LV} {l : Kv Int} (h : SoI S bs A B l) (b : Int) :
    LCalls G 53 [ptr bs, .one (iv b)] (fun r S' => r = fromI (fromL l b) ∧ S' = S) S := by
  have hD : TabOK G.P D := by rw [hP]; exact hD0
  have hb := h.box
  have hlen := h.ks.len
  refine LCalls.enter (fn := Try.f53) (by rw [hP]; exact Try.func53) rfl rfl ?_
  repeat (first | refine LOps.valH (LVal.lenPt hD rfl rfl (h.ka.pt keyL_len) rfl rfl) ?_ | refine LOps.nil ?_ | refine andThen_normal ?_ | refine andThen_exit ?_ | refine andThen_ret ?_ | refine inBlock_normal ?_ | refine inBlock_ret ?_ | refine inBlock_here ?_ | refine inBlock_out rfl ?_ | refine LWp.seq ?_ | refine LWp.region ?_ | refine LWp.block ?_ | refine LWp.exit ?_ | refine LWp.ret ?_ | refine LWp.skip ?_ | refine LOps.valA ?_ | refine LOps.outA ?_ | refine LOps.whenA ?_ | refine LOps.pickA ?_ | refine LOps.storeA ?_)
  refine LWp.loop (fun m T S' => S' = S ∧ ∃ T' j, j ≤ l.length ∧ m = l.length - j ∧ (∀ (i : Nat) (hi : i < j) (hl : i < l.length), ¬ b ≤ (l[i].1 : Int)) ∧ T = over T' [(0, ptr bs), (1, .one (iv b)), (13, .one A), (14, .one (iv (l.length : Nat))), (15, .one (iv (j : Nat)))]) l.length ?_ ?_
  · exact ⟨rfl, _, 0, by omega, by omega, fun i hi => by omega, holds.over ⟨rfl, rfl, rfl, rfl, rfl, trivial⟩⟩
  rintro m T S' ⟨rfl, T', j, hj, rfl, hno, rfl⟩
  repeat (first | refine LOps.nil ?_ | refine andThen_normal ?_ | refine andThen_exit ?_ | refine andThen_ret ?_ | refine inBlock_normal ?_ | refine inBlock_ret ?_ | refine inBlock_here ?_ | refine inBlock_out rfl ?_ | refine LWp.seq ?_ | refine LWp.region ?_ | refine LWp.block ?_ | refine LWp.exit ?_ | refine LWp.ret ?_ | refine LWp.skip ?_ | refine LOps.valA ?_ | refine LOps.outA ?_ | refine LOps.whenA ?_ | refine LOps.pickA ?_ | refine LOps.storeA ?_)
  refine LWp.cond rfl (fun hh => ?_) (fun hh => ?_)
  · have hlt : j < l.length := by simpa using hh
    obtain ⟨r, c, rest, rfl, hrow⟩ := h.ka.row_of (by omega)
    obtain ⟨r2, c2, rest2, rfl, hrow2⟩ := h.kb.row_of (by omega)
    have hbr := hrow.box
    have hbr2 := hrow2.box
    have h256 := h.ks.lt _ (List.getElem_mem hlt)
    have ew : IntKind.i64.wrap ((l[j].1 : Nat) : Int) = ((l[j].1 : Nat) : Int) := wrap64_small (by omega)
    repeat (first | refine LOps.valH (r := .one (.v (.pointer (some ⟨r, j * 1, none⟩)))) (LVal.to (LVal.indexR hD rfl rfl rfl rfl rfl rfl (by omega) (by omega)) (by rw [Nat.zero_add, Int.toNat_natCast]; rfl)) ?_ | refine LOps.valH (LVal.load (r := .one (uv (l[j].1 : Nat))) hD rfl rfl hbr rfl (rd_cells keyL_len hlt rfl)) ?_ | refine LOps.valH (r := .one (iv (l[j].1 : Nat))) (LVal.to (LVal.convInt hD rfl rfl rfl rfl) (by rw [ew])) ?_ | refine LOps.nil ?_ | refine andThen_normal ?_ | refine andThen_exit ?_ | refine andThen_ret ?_ | refine inBlock_normal ?_ | refine inBlock_ret ?_ | refine inBlock_here ?_ | refine inBlock_out rfl ?_ | refine LWp.seq ?_ | refine LWp.region ?_ | refine LWp.block ?_ | refine LWp.exit ?_ | refine LWp.ret ?_ | refine LWp.skip ?_ | refine LOps.valA ?_ | refine LOps.outA ?_ | refine LOps.whenA ?_ | refine LOps.pickA ?_ | refine LOps.storeA ?_)
    refine LWp.cond rfl (fun hh => ?_) (fun hh => ?_)
    · have hge : b ≤ (l[j].1 : Int) := by simpa using hh
      repeat (first | refine LOps.nil ?_ | refine andThen_normal ?_ | refine andThen_exit ?_ | refine andThen_ret ?_ | refine inBlock_normal ?_ | refine inBlock_ret ?_ | refine inBlock_here ?_ | refine inBlock_out rfl ?_ | refine LWp.seq ?_ | refine LWp.region ?_ | refine LWp.block ?_ | refine LWp.exit ?_ | refine LWp.ret ?_ | refine LWp.skip ?_ | refine LOps.valA ?_ | refine LOps.outA ?_ | refine LOps.whenA ?_ | refine LOps.pickA ?_ | refine LOps.storeA ?_)
      refine LWp.drawL [0, 1, 2, 3, 4, 5, 6, 7, 8, 9, 10] (by rw [hP]; rfl) rfl ?_
      repeat (first | refine LRl.val (r := .one (.v (.pointer (some ⟨r2, j * 1, none⟩)))) (fun _ _ => LVal.to (LVal.indexR hD rfl rfl rfl rfl rfl rfl (by omega) (by omega)) (by rw [Nat.zero_add, Int.toNat_natCast]; rfl)) rfl rfl rfl ?_ | refine LRl.val (r := .one (iv l[j].2)) (fun _ hS => LVal.load hD rfl rfl (hS.box _ _ hbr2 id) rfl (rd_cells kidI_len hlt rfl)) rfl rfl rfl ?_ | refine LRl.val (fun _ hS => LVal.load hD rfl rfl (hS.box _ _ hb id) rfl rfl) rfl rfl rfl ?_ | refine LRl.nil ?_ | refine LRl.valA ?_ | refine LRl.outA ?_ | refine LRl.whenA ?_ | refine LRl.pickA ?_)
      repeat (first | refine LOps.nil ?_ | refine andThen_normal ?_ | refine andThen_exit ?_ | refine andThen_ret ?_ | refine inBlock_normal ?_ | refine inBlock_ret ?_ | refine inBlock_here ?_ | refine inBlock_out rfl ?_ | refine LWp.seq ?_ | refine LWp.region ?_ | refine LWp.block ?_ | refine LWp.exit ?_ | refine LWp.ret ?_ | refine LWp.skip ?_ | refine LOps.valA ?_ | refine LOps.outA ?_ | refine LOps.whenA ?_ | refine LOps.pickA ?_ | refine LOps.storeA ?_)
      refine ⟨_, LRes.three rfl, ?_, rfl⟩
      rw [fromL_at hlt (fun i hi => hno i hi (by omega)) hge]; rfl
    · have hge : ¬ b ≤ (l[j].1 : Int) := by simpa using hh
      repeat (first | refine LOps.nil ?_ | refine andThen_normal ?_ | refine andThen_exit ?_ | refine andThen_ret ?_ | refine inBlock_normal ?_ | refine inBlock_ret ?_ | refine inBlock_here ?_ | refine inBlock_out rfl ?_ | refine LWp.seq ?_ | refine LWp.region ?_ | refine LWp.block ?_ | refine LWp.exit ?_ | refine LWp.ret ?_ | refine LWp.skip ?_ | refine LOps.valA ?_ | refine LOps.outA ?_ | refine LOps.whenA ?_ | refine LOps.pickA ?_ | refine LOps.storeA ?_)
      refine ⟨l.length - (j + 1), by omega, rfl, _, j + 1, by omega, rfl, fun i hi hl => ?_, holds.over ⟨rfl, rfl, rfl, rfl, rfl, trivial⟩⟩
      rcases Nat.lt_or_ge i j with h3 | h3
      · exact hno i h3 hl
      · obtain rfl : i = j := by omega
        exact hge
  · have hge : l.length ≤ j := by simpa using hh
    repeat (first | refine LOps.nil ?_ | refine andThen_normal ?_ | refine andThen_exit ?_ | refine andThen_ret ?_ | refine inBlock_normal ?_ | refine inBlock_ret ?_ | refine inBlock_here ?_ | refine inBlock_out rfl ?_ | refine LWp.seq ?_ | refine LWp.region ?_ | refine LWp.block ?_ | refine LWp.exit ?_ | refine LWp.ret ?_ | refine LWp.skip ?_ | refine LOps.valA ?_ | refine LOps.outA ?_ | refine LOps.whenA ?_ | refine LOps.pickA ?_ | refine LOps.storeA ?_)
    refine ⟨_, LRes.three rfl, ?_, rfl⟩
    rw [fromL_none fun i hi => hno i (by omega) hi]; rfl
end Go.Proofs.Ytinbibeapooghaa.LF
