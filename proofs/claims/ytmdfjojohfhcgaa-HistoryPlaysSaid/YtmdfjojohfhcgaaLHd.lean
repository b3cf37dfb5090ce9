/- Histories: a history as an object; put, New, Begin, Mark, End, Events. -/
import Derived.Test.YtmdfjojohfhcgaaLHc
set_option linter.unusedVariables false
set_option linter.unusedSimpArgs false
namespace Go.Proofs.Ytmdfjojohfhcgaa.LF
open Go.RowKit
abbrev evT : TypeId := 34

/-- A history, whose blocks lie in F. -/
structure Hist (S : LS) (F : Nat → Prop) (b : Nat) (w : List Ev) (f : Int → Kn) : Prop where
  ex : ∃ m o al, S.box b = some [.sl o (w.map evL), .v (.map (some m))] ∧ MapAt S m al ∧ Owned S evT w.length o ∧ Rules al f ∧ F b ∧ F m ∧ ∀ x, o = .own x → F x
  top : ∀ x, F x → x < S.top

def grow (F : Nat → Prop) (S S' : LS) (x : Nat) : Prop := F x ∨ newIn S S' x

theorem Hist.only {S S' : LS} {F F2 : Nat → Prop} {b : Nat} {w : List Ev} {f : Int → Kn} (h : Hist S F b w f) (k : S.only F2 S') (hd : ∀ x, F x → ¬ F2 x) : Hist S' F b w f := by
  obtain ⟨m, o, al, h1, h2, h3, h4, h5, h6, h7⟩ := h.ex
  exact ⟨⟨m, o, al, k.box _ _ (hd _ h5) h1, h2.only k (hd _ h6), h3.only k (fun x hx => hd _ (h7 x hx)), h4, h5, h6, h7⟩, fun x hx => Nat.lt_of_lt_of_le (h.top x hx) k.top⟩
theorem Hist.le {S S' : LS} {F : Nat → Prop} {b : Nat} {w : List Ev} {f : Int → Kn} (h : Hist S F b w f) (k : S.le S') : Hist S' F b w f := h.only (k.only fun _ => False) fun _ _ h => h
theorem Hist.grow {S S' : LS} {F : Nat → Prop} {b : Nat} {w : List Ev} {f : Int → Kn} (h : Hist S' F b w f) : Hist S' (grow F S S') b w f := by
  obtain ⟨m, o, al, h1, h2, h3, h4, h5, h6, h7⟩ := h.ex
  refine ⟨⟨m, o, al, h1, h2, h3, h4, .inl h5, .inl h6, fun x hx => .inl (h7 x hx)⟩, fun x hx => ?_⟩
  rcases hx with hx | hx
  · exact h.top x hx
  · exact hx.2

/-- What put makes of a history. -/
def PutPost (S : LS) (F : Nat → Prop) (b : Nat) (w : List Ev) (f : Int → Kn) (e : Ev) (r : TV) (S' : LS) : Prop :=
  S.only F S' ∧ match takesS (f e.id) e with
    | none => r = .one (iv 31) ∧ Hist S' (grow F S S') b w f
    | some k => r = .one (iv 0) ∧ Hist S' (grow F S S') b (w ++ [e]) fun j => if j = e.id then k else f j

set_option maxHeartbeats 8000000 in
theorem put_L {G : Ctx} (hP : G.P = Try.prog) (e : Ev) (hle : e.op.writes.length ≤ 1000000) (F : Nat → Prop) (b : Nat) (w : List Ev) (f : Int → Kn) (hw : w.length < 65536) (S : LS) (H : Hist S F b w f) :
    LCalls G 29 [.one (.v (.pointer (some ⟨b, 0, none⟩))), .agg (evL e)] (PutPost S F b w f e) S := .sound fun hs => by
  have hD : TabOK G.P D := by rw [hP]; exact hD0
  obtain ⟨m, o, al, hb, hm, hown, hr, fb, fm, fo⟩ := H.ex
  refine LCalls.enter (fn := Try.f29) (by rw [hP]; exact Try.func29) rfl rfl ?_
  repeat (first | refine LOps.nil ?_ | refine andThen_normal ?_ | refine andThen_exit ?_ | refine andThen_ret ?_ | refine inBlock_normal ?_ | refine inBlock_ret ?_ | refine inBlock_here ?_ | refine inBlock_out rfl ?_ | refine LWp.seq ?_ | refine LWp.region ?_ | refine LWp.block ?_ | refine LWp.exit ?_ | refine LWp.ret ?_ | refine LWp.skip ?_ | refine LOps.valA ?_ | refine LOps.outA ?_ | refine LOps.whenA ?_ | refine LOps.pickA ?_ | refine LOps.storeA ?_)
  refine LOps.do (LDo.box rfl rfl) rfl rfl rfl ?_
  rintro _ _ ⟨b3, hb3, rfl, rfl⟩
  have hne : b ≠ b3 := fresh_ne hb3 hb
  have hfr := hb3
  refine LOps.gen (fun S1 => S.le S1 ∧ S1.box b = some [.sl o (w.map evL), .v (.map (some m))] ∧ S1.box b3 = some (evL e) ∧ MapAt S1 m al ∧ Owned S1 evT w.length o) ⟨.newBox (.refl _) hb3 _, (box_new_ne _ _ hne).trans hb, box_new _ _ _, hm, hown.newBox⟩ ?_
  clear hb3
  rintro S1 ⟨le1, kb, k3, m1, own1⟩
  repeat (first | refine LOps.nil ?_ | refine andThen_normal ?_ | refine andThen_exit ?_ | refine andThen_ret ?_ | refine inBlock_normal ?_ | refine inBlock_ret ?_ | refine inBlock_here ?_ | refine inBlock_out rfl ?_ | refine LWp.seq ?_ | refine LWp.region ?_ | refine LWp.block ?_ | refine LWp.exit ?_ | refine LWp.ret ?_ | refine LWp.skip ?_ | refine LOps.valA ?_ | refine LOps.outA ?_ | refine LOps.whenA ?_ | refine LOps.pickA ?_ | refine LOps.storeA ?_)
  refine LWp.condF rfl ?_
  repeat (first | refine LOps.nil ?_ | refine andThen_normal ?_ | refine andThen_exit ?_ | refine andThen_ret ?_ | refine inBlock_normal ?_ | refine inBlock_ret ?_ | refine inBlock_here ?_ | refine inBlock_out rfl ?_ | refine LWp.seq ?_ | refine LWp.region ?_ | refine LWp.block ?_ | refine LWp.exit ?_ | refine LWp.ret ?_ | refine LWp.skip ?_ | refine LOps.valA ?_ | refine LOps.outA ?_ | refine LOps.whenA ?_ | refine LOps.pickA ?_ | refine LOps.storeA ?_)
  refine LWp.cond rfl (fun h => ?_) (fun h => ?_)
  · simp at h; omega
  repeat (first | refine LOps.nil ?_ | refine andThen_normal ?_ | refine andThen_exit ?_ | refine andThen_ret ?_ | refine inBlock_normal ?_ | refine inBlock_ret ?_ | refine inBlock_here ?_ | refine inBlock_out rfl ?_ | refine LWp.seq ?_ | refine LWp.region ?_ | refine LWp.block ?_ | refine LWp.exit ?_ | refine LWp.ret ?_ | refine LWp.skip ?_ | refine LOps.valA ?_ | refine LOps.outA ?_ | refine LOps.whenA ?_ | refine LOps.pickA ?_ | refine LOps.storeA ?_)
  refine LWp.condF rfl ?_
  repeat (first | refine LOps.nil ?_ | refine andThen_normal ?_ | refine andThen_exit ?_ | refine andThen_ret ?_ | refine inBlock_normal ?_ | refine inBlock_ret ?_ | refine inBlock_here ?_ | refine inBlock_out rfl ?_ | refine LWp.seq ?_ | refine LWp.region ?_ | refine LWp.block ?_ | refine LWp.exit ?_ | refine LWp.ret ?_ | refine LWp.skip ?_ | refine LOps.valA ?_ | refine LOps.outA ?_ | refine LOps.whenA ?_ | refine LOps.pickA ?_ | refine LOps.storeA ?_)
  refine LWp.drawL [0, 1, 2, 3, 4, 5, 6] (by rw [hP]; rfl) rfl ?_
  repeat (first | refine LRl.nil ?_ | refine LRl.valA ?_ | refine LRl.outA ?_ | refine LRl.whenA ?_ | refine LRl.pickA ?_)
  refine LRl.act (LDo.callF (takes_L hP e m al f hr S1 m1) (by rw [hP]; exact Try.func33)) rfl rfl rfl rfl (fun _ _ _ => .inr rfl) ?_
  rintro _ S2 ⟨o2, rfl, hno, hyes⟩
  repeat (first | refine LRl.nil ?_ | refine LRl.valA ?_ | refine LRl.outA ?_ | refine LRl.whenA ?_ | refine LRl.pickA ?_)
  have nbm : b ≠ m := hm.neBox hs hb
  have n3m : b3 ≠ m := fun e => by
    obtain ⟨_, _, ho, _⟩ := hm
    rw [e] at hfr
    rw [hfr.obj] at ho; cases ho
  have lb := o2.box _ _ nbm kb
  have l3 := o2.box _ _ n3m k3
  have own2 := own1.only o2 fun x hx => hm.neOwn hs hown x hx
  have nob : ∀ x, o = .own x → x ≠ b := fun x hx e => by subst hx; exact hs.boxRow hb hown e.symm
  have no3 : ∀ x, o = .own x → x ≠ b3 := fun x hx e => by subst hx; have h2 : S.row x = some (evT, w.length) := hown; rw [e, hfr.row] at h2; cases h2
  have oF : S.only F S2 := (le1.only F).trans (o2.mono fun x hx => by rw [hx]; exact fm)
  repeat (first | refine LOps.nil ?_ | refine andThen_normal ?_ | refine andThen_exit ?_ | refine andThen_ret ?_ | refine inBlock_normal ?_ | refine inBlock_ret ?_ | refine inBlock_here ?_ | refine inBlock_out rfl ?_ | refine LWp.seq ?_ | refine LWp.region ?_ | refine LWp.block ?_ | refine LWp.exit ?_ | refine LWp.ret ?_ | refine LWp.skip ?_ | refine LOps.valA ?_ | refine LOps.outA ?_ | refine LOps.whenA ?_ | refine LOps.pickA ?_ | refine LOps.storeA ?_)
  refine LWp.cond rfl (fun h => ?_) (fun h => ?_)
  · have hn : takesS (f e.id) e = none := by simpa using h
    repeat (first | refine LOps.nil ?_ | refine andThen_normal ?_ | refine andThen_exit ?_ | refine andThen_ret ?_ | refine inBlock_normal ?_ | refine inBlock_ret ?_ | refine inBlock_here ?_ | refine inBlock_out rfl ?_ | refine LWp.seq ?_ | refine LWp.region ?_ | refine LWp.block ?_ | refine LWp.exit ?_ | refine LWp.ret ?_ | refine LWp.skip ?_ | refine LOps.valA ?_ | refine LOps.outA ?_ | refine LOps.whenA ?_ | refine LOps.pickA ?_ | refine LOps.storeA ?_)
    refine ⟨_, LRes.one rfl, oF, ?_⟩
    rw [hn]
    exact ⟨rfl, Hist.grow ⟨⟨m, o, al, lb, hno hn, own2, hr, fb, fm, fo⟩, fun x hx => Nat.lt_of_lt_of_le (H.top x hx) oF.top⟩⟩
  obtain ⟨k, hk⟩ : ∃ k, takesS (f e.id) e = some k := by
    cases hq : takesS (f e.id) e with
    | none => rw [hq] at h; simp at h
    | some k => exact ⟨k, rfl⟩
  have m2 := hyes k hk
  repeat (first | refine LOps.nil ?_ | refine andThen_normal ?_ | refine andThen_exit ?_ | refine andThen_ret ?_ | refine inBlock_normal ?_ | refine inBlock_ret ?_ | refine inBlock_here ?_ | refine inBlock_out rfl ?_ | refine LWp.seq ?_ | refine LWp.region ?_ | refine LWp.block ?_ | refine LWp.exit ?_ | refine LWp.ret ?_ | refine LWp.skip ?_ | refine LOps.val (LVal.call rfl rfl (by rw [hP]; exact Try.func32) rfl (by decide) (own_F hP e.op hle)) rfl rfl rfl ?_ | refine LOps.whenC (LVal.call rfl rfl (by rw [hP]; exact Try.func32) rfl (by decide) (own_F hP e.op hle)) ?_ | refine LOps.valA ?_ | refine LOps.outA ?_ | refine LOps.whenA ?_ | refine LOps.pickA ?_ | refine LOps.storeA ?_)
  refine LWp.gen (fun S3 => S.only F S3 ∧ S2.top ≤ S3.top ∧ S3.box b = some [.sl o (w.map evL), .v (.map (some m))] ∧ S3.box b3 = some (evL e) ∧ MapAt S3 m (alPut al e.id (knV k)) ∧ Owned S3 evT w.length o) ⟨oF.setNew hfr.box _, Nat.le_refl _, (box_set_ne _ _ hne).trans lb, box_set _ _ _, m2, own2.setBox⟩ ?_
  clear m2 own2 lb l3 oF own1 m1 k3 kb
  rintro S3 ⟨o3, t3, lb, l3, m3, own3⟩
  refine LWp.drawL [0, 1, 2, 3, 4, 5, 6, 7, 8, 9, 10] (by rw [hP]; rfl) rfl ?_
  repeat (first | refine LRl.nil ?_ | refine LRl.valA ?_ | refine LRl.outA ?_ | refine LRl.whenA ?_ | refine LRl.pickA ?_)
  refine LRl.act (LDo.push hD rfl rfl rfl rfl rfl rfl rfl rfl rfl rfl (show _ = w.length by simp) own3 (by omega)) rfl rfl rfl rfl (by rintro _ _ ⟨_, _, _, hup, _⟩; exact .inl (.upto hup)) ?_
  rintro _ S4 ⟨o', rfl, own4, hup, hno'⟩
  have mb := hup.box _ _ lb
  have o4 : S.only F S4 := o3.trans (.upto hup fo)
  have m4 : MapAt S4 m (alPut al e.id (knV k)) := by
    obtain ⟨es, c, h1, h2⟩ := m3
    exact ⟨es, c, hup.obj _ _ h1, h2⟩
  repeat (first | refine LRl.nil ?_ | refine LRl.valA ?_ | refine LRl.outA ?_ | refine LRl.whenA ?_ | refine LRl.pickA ?_)
  refine LRl.act0 (LDo.store hD rfl rfl mb rfl rfl rfl rfl) rfl rfl rfl (fun _ _ _ => .inr rfl) ?_
  rintro _ _ ⟨rfl, rfl⟩
  repeat (first | refine LRl.nil ?_ | refine LRl.valA ?_ | refine LRl.outA ?_ | refine LRl.whenA ?_ | refine LRl.pickA ?_)
  refine andThen_normal ?_
  refine LWp.sound fun hs5 => ?_
  repeat (first | refine LOps.nil ?_ | refine andThen_normal ?_ | refine andThen_exit ?_ | refine andThen_ret ?_ | refine inBlock_normal ?_ | refine inBlock_ret ?_ | refine inBlock_here ?_ | refine inBlock_out rfl ?_ | refine LWp.seq ?_ | refine LWp.region ?_ | refine LWp.block ?_ | refine LWp.exit ?_ | refine LWp.ret ?_ | refine LWp.skip ?_ | refine LOps.valA ?_ | refine LOps.outA ?_ | refine LOps.whenA ?_ | refine LOps.pickA ?_ | refine LOps.storeA ?_)
  refine ⟨_, LRes.one rfl, o4.trans (.setBox fb _), ?_⟩
  rw [hk]
  refine ⟨rfl, ⟨m, o', alPut al e.id (knV k), ?_, m4, ?_, hr.put _ _, .inl fb, .inl fm, fun x hx => ?_⟩, fun x hx => ?_⟩
  · rw [box_set, List.map_append]; rfl
  · exact (own4.ofN (by simp)).setBox
  · rcases hno' x hx with h1 | h1
    · exact .inl (fo x h1)
    · refine .inr ⟨Nat.le_trans o3.top h1.top, ?_⟩
      subst hx
      exact row_top (S := S4.setBox b _) own4 hs5.wf
  · rcases hx with hx | hx
    · exact Nat.lt_of_lt_of_le (H.top x hx) o4.top
    · exact hx.2

set_option maxHeartbeats 4000000 in
theorem new_L {G : Ctx} (hP : G.P = Try.prog) (S : LS) :
    LCalls G 10 [] (fun r S' => S.le S' ∧ ∃ b, r = .one (.v (.pointer (some ⟨b, 0, none⟩))) ∧ S.top ≤ b ∧ Hist S' (newIn S S') b [] fun _ => noKn) S := by
  have hD : TabOK G.P D := by rw [hP]; exact hD0
  refine LCalls.enter (fn := Try.f10) (by rw [hP]; exact Try.func10) rfl rfl ?_
  repeat (first | refine LOps.nil ?_ | refine andThen_normal ?_ | refine andThen_exit ?_ | refine andThen_ret ?_ | refine inBlock_normal ?_ | refine inBlock_ret ?_ | refine inBlock_here ?_ | refine inBlock_out rfl ?_ | refine LWp.seq ?_ | refine LWp.region ?_ | refine LWp.block ?_ | refine LWp.exit ?_ | refine LWp.ret ?_ | refine LWp.skip ?_ | refine LOps.valA ?_ | refine LOps.outA ?_ | refine LOps.whenA ?_ | refine LOps.pickA ?_ | refine LOps.storeA ?_)
  refine LOps.do (LDo.makeMap rfl) rfl rfl rfl ?_
  rintro _ _ ⟨m, hm, rfl, rfl⟩
  repeat (first | refine LOps.nil ?_ | refine andThen_normal ?_ | refine andThen_exit ?_ | refine andThen_ret ?_ | refine inBlock_normal ?_ | refine inBlock_ret ?_ | refine inBlock_here ?_ | refine inBlock_out rfl ?_ | refine LWp.seq ?_ | refine LWp.region ?_ | refine LWp.block ?_ | refine LWp.exit ?_ | refine LWp.ret ?_ | refine LWp.skip ?_ | refine LOps.valA ?_ | refine LOps.outA ?_ | refine LOps.whenA ?_ | refine LOps.pickA ?_ | refine LOps.storeA ?_)
  refine LOps.do (LDo.box rfl rfl) rfl rfl rfl ?_
  rintro _ _ ⟨b, hb, rfl, rfl⟩
  repeat (first | refine LOps.nil ?_ | refine andThen_normal ?_ | refine andThen_exit ?_ | refine andThen_ret ?_ | refine inBlock_normal ?_ | refine inBlock_ret ?_ | refine inBlock_here ?_ | refine inBlock_out rfl ?_ | refine LWp.seq ?_ | refine LWp.region ?_ | refine LWp.block ?_ | refine LWp.exit ?_ | refine LWp.ret ?_ | refine LWp.skip ?_ | refine LOps.valA ?_ | refine LOps.outA ?_ | refine LOps.whenA ?_ | refine LOps.pickA ?_ | refine LOps.storeA ?_)
  have hb1 : S.top ≤ b := Nat.le_trans (Nat.le_max_left _ _) hb.top
  have hb2 : m < b := Nat.lt_of_lt_of_le (Nat.lt_of_lt_of_le (Nat.lt_succ_self m) (Nat.le_max_right S.top (m + 1))) hb.top
  refine ⟨_, LRes.one rfl, ?_, b, rfl, hb1, ⟨m, .nil, [], box_new _ _ _, MapAt.new S m, rfl, Rules.empty, ⟨hb1, Nat.lt_succ_self b⟩, ⟨hm.top, Nat.lt_succ_of_lt hb2⟩, fun x hx => by cases hx⟩, fun x hx => hx.2⟩
  exact LS.only.le ((LS.only.newObj hm _ _).trans (.newBox hb _ _))

theorem Hist.mono {S : LS} {F F' : Nat → Prop} {b : Nat} {w : List Ev} {f : Int → Kn} (h : Hist S F b w f) (hf : ∀ x, F x → F' x) (ht : ∀ x, F' x → x < S.top) : Hist S F' b w f := by
  obtain ⟨m, o, al, h1, h2, h3, h4, h5, h6, h7⟩ := h.ex
  exact ⟨⟨m, o, al, h1, h2, h3, h4, hf _ h5, hf _ h6, fun x hx => hf _ (h7 x hx)⟩, ht⟩

theorem PutPost.le {S S1 S' : LS} {F : Nat → Prop} {b : Nat} {w : List Ev} {f : Int → Kn} {e : Ev} {r : TV} (hle : S.le S1) (hF : ∀ x, F x → x < S.top) (h : PutPost S1 F b w f e r S') : PutPost S F b w f e r S' := by
  obtain ⟨h1, h2⟩ := h
  have hg : ∀ x, grow F S1 S' x → grow F S S' x := fun x hx => hx.imp id fun hx => ⟨Nat.le_trans hle.top hx.1, hx.2⟩
  have ht : ∀ x, grow F S S' x → x < S'.top := fun x hx => by
    rcases hx with hx | hx
    · exact Nat.lt_of_lt_of_le (hF x hx) (Nat.le_trans hle.top h1.top)
    · exact hx.2
  refine ⟨(hle.only F).trans h1, ?_⟩
  cases hk : takesS (f e.id) e with
  | none =>
    rw [hk] at h2
    exact ⟨h2.1, h2.2.mono hg ht⟩
  | some k =>
    rw [hk] at h2
    exact ⟨h2.1, h2.2.mono hg ht⟩

set_option maxHeartbeats 4000000 in
theorem begin_L {G : Ctx} (hP : G.P = Try.prog) (id : Int) (x : OpV) (hle : x.writes.length ≤ 1000000) (F : Nat → Prop) (b : Nat) (w : List Ev) (f : Int → Kn) (hw : w.length < 65536) (S : LS) (H : Hist S F b w f) :
    LCalls G 11 [.one (.v (.pointer (some ⟨b, 0, none⟩))), .one (iv id), .agg (opL x)] (PutPost S F b w f ⟨1, id, x, noAns⟩) S := by
  have hD : TabOK G.P D := by rw [hP]; exact hD0
  refine LCalls.enter (fn := Try.f11) (by rw [hP]; exact Try.func11) rfl rfl ?_
  repeat (first | refine LOps.nil ?_ | refine andThen_normal ?_ | refine andThen_exit ?_ | refine andThen_ret ?_ | refine inBlock_normal ?_ | refine inBlock_ret ?_ | refine inBlock_here ?_ | refine inBlock_out rfl ?_ | refine LWp.seq ?_ | refine LWp.region ?_ | refine LWp.block ?_ | refine LWp.exit ?_ | refine LWp.ret ?_ | refine LWp.skip ?_ | refine LOps.valA ?_ | refine LOps.outA ?_ | refine LOps.whenA ?_ | refine LOps.pickA ?_ | refine LOps.storeA ?_)
  refine LOps.do (LDo.box rfl rfl) rfl rfl rfl ?_
  rintro _ _ ⟨b5, hb5, rfl, rfl⟩
  have hle1 : S.le (S.newBox b5 (opL x)) := .newBox (.refl _) hb5 _
  repeat (first | refine LOps.nil ?_ | refine andThen_normal ?_ | refine andThen_exit ?_ | refine andThen_ret ?_ | refine inBlock_normal ?_ | refine inBlock_ret ?_ | refine inBlock_here ?_ | refine inBlock_out rfl ?_ | refine LWp.seq ?_ | refine LWp.region ?_ | refine LWp.block ?_ | refine LWp.exit ?_ | refine LWp.ret ?_ | refine LWp.skip ?_ | refine LOps.valA ?_ | refine LOps.outA ?_ | refine LOps.whenA ?_ | refine LOps.pickA ?_ | refine LOps.storeA ?_)
  refine LOps.do (LDo.callF (put_L hP ⟨1, id, x, noAns⟩ hle F b w f hw _ (H.le hle1)) (by rw [hP]; exact Try.func29)) rfl rfl rfl ?_
  intro r S2 hp
  repeat (first | refine LOps.nil ?_ | refine andThen_normal ?_ | refine andThen_exit ?_ | refine andThen_ret ?_ | refine inBlock_normal ?_ | refine inBlock_ret ?_ | refine inBlock_here ?_ | refine inBlock_out rfl ?_ | refine LWp.seq ?_ | refine LWp.region ?_ | refine LWp.block ?_ | refine LWp.exit ?_ | refine LWp.ret ?_ | refine LWp.skip ?_ | refine LOps.valA ?_ | refine LOps.outA ?_ | refine LOps.whenA ?_ | refine LOps.pickA ?_ | refine LOps.storeA ?_)
  exact ⟨_, LRes.one rfl, hp.le hle1 H.top⟩

set_option maxHeartbeats 4000000 in
theorem mark_L {G : Ctx} (hP : G.P = Try.prog) (id : Int) (a : Ans) (F : Nat → Prop) (b : Nat) (w : List Ev) (f : Int → Kn) (hw : w.length < 65536) (S : LS) (H : Hist S F b w f) :
    LCalls G 12 [.one (.v (.pointer (some ⟨b, 0, none⟩))), .one (iv id), .agg (ansL a)] (PutPost S F b w f ⟨2, id, noOp, a⟩) S := by
  have hD : TabOK G.P D := by rw [hP]; exact hD0
  refine LCalls.enter (fn := Try.f12) (by rw [hP]; exact Try.func12) rfl rfl ?_
  repeat (first | refine LOps.nil ?_ | refine andThen_normal ?_ | refine andThen_exit ?_ | refine andThen_ret ?_ | refine inBlock_normal ?_ | refine inBlock_ret ?_ | refine inBlock_here ?_ | refine inBlock_out rfl ?_ | refine LWp.seq ?_ | refine LWp.region ?_ | refine LWp.block ?_ | refine LWp.exit ?_ | refine LWp.ret ?_ | refine LWp.skip ?_ | refine LOps.valA ?_ | refine LOps.outA ?_ | refine LOps.whenA ?_ | refine LOps.pickA ?_ | refine LOps.storeA ?_)
  refine LOps.do (LDo.box rfl rfl) rfl rfl rfl ?_
  rintro _ _ ⟨b5, hb5, rfl, rfl⟩
  have hle1 : S.le (S.newBox b5 (ansL a)) := .newBox (.refl _) hb5 _
  repeat (first | refine LOps.nil ?_ | refine andThen_normal ?_ | refine andThen_exit ?_ | refine andThen_ret ?_ | refine inBlock_normal ?_ | refine inBlock_ret ?_ | refine inBlock_here ?_ | refine inBlock_out rfl ?_ | refine LWp.seq ?_ | refine LWp.region ?_ | refine LWp.block ?_ | refine LWp.exit ?_ | refine LWp.ret ?_ | refine LWp.skip ?_ | refine LOps.valA ?_ | refine LOps.outA ?_ | refine LOps.whenA ?_ | refine LOps.pickA ?_ | refine LOps.storeA ?_)
  refine LOps.do (LDo.callF (put_L hP ⟨2, id, noOp, a⟩ (by simp [noOp]) F b w f hw _ (H.le hle1)) (by rw [hP]; exact Try.func29)) rfl rfl rfl ?_
  intro r S2 hp
  repeat (first | refine LOps.nil ?_ | refine andThen_normal ?_ | refine andThen_exit ?_ | refine andThen_ret ?_ | refine inBlock_normal ?_ | refine inBlock_ret ?_ | refine inBlock_here ?_ | refine inBlock_out rfl ?_ | refine LWp.seq ?_ | refine LWp.region ?_ | refine LWp.block ?_ | refine LWp.exit ?_ | refine LWp.ret ?_ | refine LWp.skip ?_ | refine LOps.valA ?_ | refine LOps.outA ?_ | refine LOps.whenA ?_ | refine LOps.pickA ?_ | refine LOps.storeA ?_)
  exact ⟨_, LRes.one rfl, hp.le hle1 H.top⟩

set_option maxHeartbeats 4000000 in
theorem end_L {G : Ctx} (hP : G.P = Try.prog) (id : Int) (F : Nat → Prop) (b : Nat) (w : List Ev) (f : Int → Kn) (hw : w.length < 65536) (S : LS) (H : Hist S F b w f) :
    LCalls G 13 [.one (.v (.pointer (some ⟨b, 0, none⟩))), .one (iv id)] (PutPost S F b w f ⟨3, id, noOp, (f id).ans⟩) S := by
  have hD : TabOK G.P D := by rw [hP]; exact hD0
  obtain ⟨m, o, al, kb, hm, _, hr, _⟩ := H.ex
  refine LCalls.enter (fn := Try.f13) (by rw [hP]; exact Try.func13) rfl rfl ?_
  repeat (first | refine LOps.nil ?_ | refine andThen_normal ?_ | refine andThen_exit ?_ | refine andThen_ret ?_ | refine inBlock_normal ?_ | refine inBlock_ret ?_ | refine inBlock_here ?_ | refine inBlock_out rfl ?_ | refine LWp.seq ?_ | refine LWp.region ?_ | refine LWp.block ?_ | refine LWp.exit ?_ | refine LWp.ret ?_ | refine LWp.skip ?_ | refine LOps.valA ?_ | refine LOps.outA ?_ | refine LOps.whenA ?_ | refine LOps.pickA ?_ | refine LOps.storeA ?_)
  refine LWp.condF rfl ?_
  repeat (first | refine LOps.val (r := .agg (knL (f id))) (LVal.lookup hD rfl rfl rfl rfl rfl rfl rfl rfl rfl hm (hr id) rfl) rfl rfl rfl ?_ | refine LOps.nil ?_ | refine andThen_normal ?_ | refine andThen_exit ?_ | refine andThen_ret ?_ | refine inBlock_normal ?_ | refine inBlock_ret ?_ | refine inBlock_here ?_ | refine inBlock_out rfl ?_ | refine LWp.seq ?_ | refine LWp.region ?_ | refine LWp.block ?_ | refine LWp.exit ?_ | refine LWp.ret ?_ | refine LWp.skip ?_ | refine LOps.valA ?_ | refine LOps.outA ?_ | refine LOps.whenA ?_ | refine LOps.pickA ?_ | refine LOps.storeA ?_)
  refine LOps.do (LDo.callF (put_L hP ⟨3, id, noOp, (f id).ans⟩ (by simp [noOp]) F b w f hw _ H) (by rw [hP]; exact Try.func29)) rfl rfl rfl ?_
  intro r S2 hp
  repeat (first | refine LOps.nil ?_ | refine andThen_normal ?_ | refine andThen_exit ?_ | refine andThen_ret ?_ | refine inBlock_normal ?_ | refine inBlock_ret ?_ | refine inBlock_here ?_ | refine inBlock_out rfl ?_ | refine LWp.seq ?_ | refine LWp.region ?_ | refine LWp.block ?_ | refine LWp.exit ?_ | refine LWp.ret ?_ | refine LWp.skip ?_ | refine LOps.valA ?_ | refine LOps.outA ?_ | refine LOps.whenA ?_ | refine LOps.pickA ?_ | refine LOps.storeA ?_)
  exact ⟨_, LRes.one rfl, hp⟩

set_option maxHeartbeats 8000000 in
theorem events_L {G : Ctx} (hP : G.P = Try.prog) (F : Nat → Prop) (b : Nat) (w : List Ev) (f : Int → Kn) (hw : w.length < 65536) (hws : ∀ e ∈ w, e.op.writes.length ≤ 1000000) (S : LS) (H : Hist S F b w f) :
    LCalls G 17 [.one (.v (.pointer (some ⟨b, 0, none⟩)))] (fun r S' => r = .one (.sl .sh (w.map evL)) ∧ S.le S') S := by
  have hD : TabOK G.P D := by rw [hP]; exact hD0
  obtain ⟨m, o, al, kb, hm, hown, hr, _⟩ := H.ex
  refine LCalls.enter (fn := Try.f17) (by rw [hP]; exact Try.func17) rfl rfl ?_
  repeat (first | refine LOps.nil ?_ | refine andThen_normal ?_ | refine andThen_exit ?_ | refine andThen_ret ?_ | refine inBlock_normal ?_ | refine inBlock_ret ?_ | refine inBlock_here ?_ | refine inBlock_out rfl ?_ | refine LWp.seq ?_ | refine LWp.region ?_ | refine LWp.block ?_ | refine LWp.exit ?_ | refine LWp.ret ?_ | refine LWp.skip ?_ | refine LOps.valA ?_ | refine LOps.outA ?_ | refine LOps.whenA ?_ | refine LOps.pickA ?_ | refine LOps.storeA ?_)
  refine LWp.condF rfl ?_
  repeat (first | refine LOps.nil ?_ | refine andThen_normal ?_ | refine andThen_exit ?_ | refine andThen_ret ?_ | refine inBlock_normal ?_ | refine inBlock_ret ?_ | refine inBlock_here ?_ | refine inBlock_out rfl ?_ | refine LWp.seq ?_ | refine LWp.region ?_ | refine LWp.block ?_ | refine LWp.exit ?_ | refine LWp.ret ?_ | refine LWp.skip ?_ | refine LOps.valA ?_ | refine LOps.outA ?_ | refine LOps.whenA ?_ | refine LOps.pickA ?_ | refine LOps.storeA ?_)
  refine LWp.loop (fun k T S' => ∃ T' j o', j ≤ w.length ∧ k = w.length - j ∧ S.le S' ∧ Owned S' evT j o' ∧ Out S o' ∧ T = over T' [(3, .one (.sl o' ((w.take j).map evL))), (11, .one (.sl o (w.map evL))), (12, .one (iv w.length)), (13, .one (iv j))]) w.length ?_ ?_
  · exact ⟨_, 0, .nil, by omega, by omega, .refl _, rfl, .nil _, holds.over ⟨rfl, rfl, by show TV.one (iv ((w.map evL).length : Int)) = _; rw [List.length_map], rfl, trivial⟩⟩
  rintro k T S' ⟨T', j, o', hj, rfl, hle, hown', hout, rfl⟩
  repeat (first | refine LOps.nil ?_ | refine andThen_normal ?_ | refine andThen_exit ?_ | refine andThen_ret ?_ | refine inBlock_normal ?_ | refine inBlock_ret ?_ | refine inBlock_here ?_ | refine inBlock_out rfl ?_ | refine LWp.seq ?_ | refine LWp.region ?_ | refine LWp.block ?_ | refine LWp.exit ?_ | refine LWp.ret ?_ | refine LWp.skip ?_ | refine LOps.valA ?_ | refine LOps.outA ?_ | refine LOps.whenA ?_ | refine LOps.pickA ?_ | refine LOps.storeA ?_)
  refine LWp.cond rfl (fun h => ?_) (fun h => ?_)
  · have hlt : j < w.length := by simpa using h
    have hown2 := own_F hP w[j].op (hws _ (List.getElem_mem hlt))
    repeat (first | refine LOps.nil ?_ | refine andThen_normal ?_ | refine andThen_exit ?_ | refine andThen_ret ?_ | refine inBlock_normal ?_ | refine inBlock_ret ?_ | refine inBlock_here ?_ | refine inBlock_out rfl ?_ | refine LWp.seq ?_ | refine LWp.region ?_ | refine LWp.block ?_ | refine LWp.exit ?_ | refine LWp.ret ?_ | refine LWp.skip ?_ | refine LOps.valA ?_ | refine LOps.outA ?_ | refine LOps.whenA ?_ | refine LOps.pickA ?_ | refine LOps.storeA ?_)
    refine LOps.do (LDo.alloc hD rfl rfl rfl) rfl rfl rfl ?_
    rintro _ _ ⟨b5, hb5, rfl, rfl⟩
    have hn5 : S.box b5 = none := by
      cases hq : S.box b5 with
      | none => rfl
      | some x => have := hle.box _ _ hq; rw [hb5.box] at this; cases this
    repeat (first | refine LOps.nil ?_ | refine andThen_normal ?_ | refine andThen_exit ?_ | refine andThen_ret ?_ | refine inBlock_normal ?_ | refine inBlock_ret ?_ | refine inBlock_here ?_ | refine inBlock_out rfl ?_ | refine LWp.seq ?_ | refine LWp.region ?_ | refine LWp.block ?_ | refine LWp.exit ?_ | refine LWp.ret ?_ | refine LWp.skip ?_ | refine LOps.val (LVal.call rfl rfl (by rw [hP]; exact Try.func32) rfl (by decide) (hown2)) rfl rfl rfl ?_ | refine LOps.whenC (LVal.call rfl rfl (by rw [hP]; exact Try.func32) rfl (by decide) (hown2)) ?_ | refine LOps.valA ?_ | refine LOps.outA ?_ | refine LOps.whenA ?_ | refine LOps.pickA ?_ | refine LOps.storeA ?_)
    refine LOps.do (LDo.push hD rfl rfl rfl rfl rfl rfl rfl rfl rfl rfl (show _ = j by simp; omega) hown' (by omega)) rfl rfl rfl ?_
    rintro _ S3 ⟨o3, rfl, own3, hup, hno⟩
    repeat (first | refine LOps.nil ?_ | refine andThen_normal ?_ | refine andThen_exit ?_ | refine andThen_ret ?_ | refine inBlock_normal ?_ | refine inBlock_ret ?_ | refine inBlock_here ?_ | refine inBlock_out rfl ?_ | refine LWp.seq ?_ | refine LWp.region ?_ | refine LWp.block ?_ | refine LWp.exit ?_ | refine LWp.ret ?_ | refine LWp.skip ?_ | refine LOps.valA ?_ | refine LOps.outA ?_ | refine LOps.whenA ?_ | refine LOps.pickA ?_ | refine LOps.storeA ?_)
    refine ⟨w.length - (j + 1), by omega, _, j + 1, o3, by omega, rfl, ?_, own3, ?_, holds.over ⟨?_, rfl, rfl, rfl, trivial⟩⟩
    · exact (((hle.newBox hb5 _).setBox hn5 _).setBox hn5 _).upto hup hout
    · exact hout.next (((hle.newBox hb5 _).setBox hn5 _).setBox hn5 _) hno
    · rw [List.take_succ_eq_append_getElem hlt, List.map_append]; rfl
  · have hge : w.length ≤ j := by simpa using h
    repeat (first | refine LOps.nil ?_ | refine andThen_normal ?_ | refine andThen_exit ?_ | refine andThen_ret ?_ | refine inBlock_normal ?_ | refine inBlock_ret ?_ | refine inBlock_here ?_ | refine inBlock_out rfl ?_ | refine LWp.seq ?_ | refine LWp.region ?_ | refine LWp.block ?_ | refine LWp.exit ?_ | refine LWp.ret ?_ | refine LWp.skip ?_ | refine LOps.valA ?_ | refine LOps.outA ?_ | refine LOps.whenA ?_ | refine LOps.pickA ?_ | refine LOps.storeA ?_)
    refine ⟨_, LRes.sh (LRes.one rfl), ?_, hle⟩
    rw [List.take_of_length_le hge]; rfl
end Go.Proofs.Ytmdfjojohfhcgaa.LF
