/- Histories: Check; the law's wakes. -/
import Derived.Test.YtmdfjojohfhcgaaLHd
set_option linter.unusedVariables false
set_option linter.unusedSimpArgs false
namespace Go.Proofs.Ytmdfjojohfhcgaa.LF
open Go.RowKit

def put1 (f : Int → Kn) (id : Int) (k : Kn) : Int → Kn := fun j => if j = id then k else f j
def checkS (f : Int → Kn) : List Ev → Nat → Int × Int
  | [], _ => (-1, 0)
  | e :: l, i => match takesS (f e.id) e with
    | none => (i, 31)
    | some k => checkS (put1 f e.id k) l (i + 1)

set_option maxHeartbeats 4000000 in
theorem check_L {G : Ctx} (hP : G.P = Try.prog) (l : List Ev) (hl : l.length ≤ 1000000) (S : LS) :
    LCalls G 18 [.one (.sl .sh (l.map evL))] (fun r S' => r = .tup [.one (iv (checkS (fun _ => noKn) l 0).1), .one (iv (checkS (fun _ => noKn) l 0).2)] ∧ S.le S') S := .sound fun hs => by
  have hD : TabOK G.P D := by rw [hP]; exact hD0
  have hwf := hs.wf
  refine LCalls.enter (fn := Try.f18) (by rw [hP]; exact Try.func18) rfl rfl ?_
  repeat (first | refine LOps.nil ?_ | refine andThen_normal ?_ | refine andThen_exit ?_ | refine andThen_ret ?_ | refine inBlock_normal ?_ | refine inBlock_ret ?_ | refine inBlock_here ?_ | refine inBlock_out rfl ?_ | refine LWp.seq ?_ | refine LWp.region ?_ | refine LWp.block ?_ | refine LWp.exit ?_ | refine LWp.ret ?_ | refine LWp.skip ?_ | refine LOps.valA ?_ | refine LOps.outA ?_ | refine LOps.whenA ?_ | refine LOps.pickA ?_ | refine LOps.storeA ?_)
  refine LOps.do (LDo.makeMap rfl) rfl rfl rfl ?_
  rintro _ _ ⟨m, hm, rfl, rfl⟩
  repeat (first | refine LOps.nil ?_ | refine andThen_normal ?_ | refine andThen_exit ?_ | refine andThen_ret ?_ | refine inBlock_normal ?_ | refine inBlock_ret ?_ | refine inBlock_here ?_ | refine inBlock_out rfl ?_ | refine LWp.seq ?_ | refine LWp.region ?_ | refine LWp.block ?_ | refine LWp.exit ?_ | refine LWp.ret ?_ | refine LWp.skip ?_ | refine LOps.valA ?_ | refine LOps.outA ?_ | refine LOps.whenA ?_ | refine LOps.pickA ?_ | refine LOps.storeA ?_)
  refine LWp.loop (fun k T S' => ∃ T' j al f, j ≤ l.length ∧ k = l.length - j ∧ S.le S' ∧ MapAt S' m al ∧ Rules al f ∧ checkS (fun _ => noKn) l 0 = checkS f (l.drop j) j ∧ T = over T' [(4, .one (.v (.map (some m)))), (8, .one (.sl .sh (l.map evL))), (9, .one (iv l.length)), (10, .one (iv j))]) l.length ?_ ?_
  · exact ⟨_, 0, [], _, by omega, by omega, LS.only.le (.newObj hm _ _), MapAt.new S m, Rules.empty, rfl, holds.over ⟨rfl, rfl, by show TV.one (iv ((l.map evL).length : Int)) = _; rw [List.length_map], rfl, trivial⟩⟩
  rintro k T S' ⟨T', j, al, f, hj, rfl, hle, hma, hr, hc, rfl⟩
  repeat (first | refine LOps.nil ?_ | refine andThen_normal ?_ | refine andThen_exit ?_ | refine andThen_ret ?_ | refine inBlock_normal ?_ | refine inBlock_ret ?_ | refine inBlock_here ?_ | refine inBlock_out rfl ?_ | refine LWp.seq ?_ | refine LWp.region ?_ | refine LWp.block ?_ | refine LWp.exit ?_ | refine LWp.ret ?_ | refine LWp.skip ?_ | refine LOps.valA ?_ | refine LOps.outA ?_ | refine LOps.whenA ?_ | refine LOps.pickA ?_ | refine LOps.storeA ?_)
  refine LWp.cond rfl (fun h => ?_) (fun h => ?_)
  · have hlt : j < l.length := by simpa using h
    rw [List.drop_eq_getElem_cons hlt] at hc
    repeat (first | refine LOps.nil ?_ | refine andThen_normal ?_ | refine andThen_exit ?_ | refine andThen_ret ?_ | refine inBlock_normal ?_ | refine inBlock_ret ?_ | refine inBlock_here ?_ | refine inBlock_out rfl ?_ | refine LWp.seq ?_ | refine LWp.region ?_ | refine LWp.block ?_ | refine LWp.exit ?_ | refine LWp.ret ?_ | refine LWp.skip ?_ | refine LOps.valA ?_ | refine LOps.outA ?_ | refine LOps.whenA ?_ | refine LOps.pickA ?_ | refine LOps.storeA ?_)
    refine LOps.do (LDo.alloc hD rfl rfl rfl) rfl rfl rfl ?_
    rintro _ _ ⟨b6, hb6, rfl, rfl⟩
    have hn6 : S.box b6 = none := by
      cases hq : S.box b6 with
      | none => rfl
      | some x => have := hle.box _ _ hq; rw [hb6.box] at this; cases this
    repeat (first | refine LOps.nil ?_ | refine andThen_normal ?_ | refine andThen_exit ?_ | refine andThen_ret ?_ | refine inBlock_normal ?_ | refine inBlock_ret ?_ | refine inBlock_here ?_ | refine inBlock_out rfl ?_ | refine LWp.seq ?_ | refine LWp.region ?_ | refine LWp.block ?_ | refine LWp.exit ?_ | refine LWp.ret ?_ | refine LWp.skip ?_ | refine LOps.valA ?_ | refine LOps.outA ?_ | refine LOps.whenA ?_ | refine LOps.pickA ?_ | refine LOps.storeA ?_)
    refine LOps.do (LDo.callF (takes_L hP l[j] m al f hr _ (show MapAt _ m al from hma)) (by rw [hP]; exact Try.func33)) rfl rfl rfl ?_
    rintro _ S2 ⟨o2, rfl, hno, hyes⟩
    have hle2 : S.le S2 := ((hle.newBox hb6 _).setBox hn6 _).newOnly o2 (fun x hx => by rw [hx]; exact hm.top) hwf
    repeat (first | refine LOps.nil ?_ | refine andThen_normal ?_ | refine andThen_exit ?_ | refine andThen_ret ?_ | refine inBlock_normal ?_ | refine inBlock_ret ?_ | refine inBlock_here ?_ | refine inBlock_out rfl ?_ | refine LWp.seq ?_ | refine LWp.region ?_ | refine LWp.block ?_ | refine LWp.exit ?_ | refine LWp.ret ?_ | refine LWp.skip ?_ | refine LOps.valA ?_ | refine LOps.outA ?_ | refine LOps.whenA ?_ | refine LOps.pickA ?_ | refine LOps.storeA ?_)
    refine LWp.cond rfl (fun h => ?_) (fun h => ?_)
    · have hn : takesS (f l[j].id) l[j] = none := by simpa using h
      repeat (first | refine LOps.nil ?_ | refine andThen_normal ?_ | refine andThen_exit ?_ | refine andThen_ret ?_ | refine inBlock_normal ?_ | refine inBlock_ret ?_ | refine inBlock_here ?_ | refine inBlock_out rfl ?_ | refine LWp.seq ?_ | refine LWp.region ?_ | refine LWp.block ?_ | refine LWp.exit ?_ | refine LWp.ret ?_ | refine LWp.skip ?_ | refine LOps.valA ?_ | refine LOps.outA ?_ | refine LOps.whenA ?_ | refine LOps.pickA ?_ | refine LOps.storeA ?_)
      refine ⟨_, LRes.two rfl, ?_, hle2⟩
      rw [hc]; simp only [checkS, hn]; rfl
    · obtain ⟨k, hk⟩ : ∃ k, takesS (f l[j].id) l[j] = some k := by
        cases hq : takesS (f l[j].id) l[j] with
        | none => rw [hq] at h; simp at h
        | some k => exact ⟨k, rfl⟩
      repeat (first | refine LOps.nil ?_ | refine andThen_normal ?_ | refine andThen_exit ?_ | refine andThen_ret ?_ | refine inBlock_normal ?_ | refine inBlock_ret ?_ | refine inBlock_here ?_ | refine inBlock_out rfl ?_ | refine LWp.seq ?_ | refine LWp.region ?_ | refine LWp.block ?_ | refine LWp.exit ?_ | refine LWp.ret ?_ | refine LWp.skip ?_ | refine LOps.valA ?_ | refine LOps.outA ?_ | refine LOps.whenA ?_ | refine LOps.pickA ?_ | refine LOps.storeA ?_)
      exact ⟨l.length - (j + 1), by omega, _, j + 1, _, _, by omega, rfl, hle2, hyes k hk, hr.put _ _, by rw [hc]; simp only [checkS, hk]; rfl, holds.over ⟨rfl, rfl, rfl, rfl, trivial⟩⟩
  · have hge : l.length ≤ j := by simpa using h
    repeat (first | refine LOps.nil ?_ | refine andThen_normal ?_ | refine andThen_exit ?_ | refine andThen_ret ?_ | refine inBlock_normal ?_ | refine inBlock_ret ?_ | refine inBlock_here ?_ | refine inBlock_out rfl ?_ | refine LWp.seq ?_ | refine LWp.region ?_ | refine LWp.block ?_ | refine LWp.exit ?_ | refine LWp.ret ?_ | refine LWp.skip ?_ | refine LOps.valA ?_ | refine LOps.outA ?_ | refine LOps.whenA ?_ | refine LOps.pickA ?_ | refine LOps.storeA ?_)
    refine ⟨_, LRes.two rfl, ?_, hle⟩
    rw [hc, List.drop_eq_nil_of_le hge]; rfl
theorem check_F {G : Ctx} (hP : G.P = Try.prog) (l : List Ev) (hl : l.length ≤ 1000000) : LFun G 18 [.one (.sl .sh (l.map evL))] (.tup [.one (iv (checkS (fun _ => noKn) l 0).1), .one (iv (checkS (fun _ => noKn) l 0).2)]) := LFun.of fun S => check_L hP l hl S

def kBytes : ByteArray := { data := #[107] }
def wk1 : Ev := ⟨1, 1, ⟨1, kBytes, noBytes, noBytes, false, false, []⟩, noAns⟩
def wk2 : Ev := ⟨2, 1, noOp, ⟨0, true, noBytes, noBytes⟩⟩
def wk3 : Ev := ⟨3, 1, noOp, ⟨0, true, noBytes, noBytes⟩⟩

theorem PutPost.some {S : LS} {F : Nat → Prop} {b : Nat} {w : List Ev} {f : Int → Kn} {e : Ev} {r : TV} {S' : LS} (h : PutPost S F b w f e r S') {k : Kn} (hk : takesS (f e.id) e = some k) :
    r = .one (iv 0) ∧ S.only F S' ∧ Hist S' (grow F S S') b (w ++ [e]) (put1 f e.id k) := by
  obtain ⟨h1, h2⟩ := h
  rw [hk] at h2
  exact ⟨h2.1, h1, h2.2⟩
theorem PutPost.none {S : LS} {F : Nat → Prop} {b : Nat} {w : List Ev} {f : Int → Kn} {e : Ev} {r : TV} {S' : LS} (h : PutPost S F b w f e r S') (hk : takesS (f e.id) e = Option.none) :
    r = .one (iv 31) ∧ S.only F S' ∧ Hist S' (grow F S S') b w f := by
  obtain ⟨h1, h2⟩ := h
  rw [hk] at h2
  exact ⟨h2.1, h1, h2.2⟩

theorem grow_new {S0 S S' : LS} {F : Nat → Prop} (h : ∀ x, F x → S0.top ≤ x) (hle : S0.top ≤ S.top) : ∀ x, grow F S S' x → S0.top ≤ x := fun x hx => by
  rcases hx with hx | hx
  · exact h x hx
  · exact Nat.le_trans hle hx.1

set_option maxHeartbeats 8000000 in
theorem wakes_L {G : Ctx} (hP : G.P = Try.prog) (S : LS) : LCalls G 9 [] (fun r S' => r = .one (bv true) ∧ S.le S') S := .sound fun hs => by
  have hD : TabOK G.P D := by rw [hP]; exact hD0
  have hwf := hs.wf
  refine LCalls.enter (fn := Try.f9) (by rw [hP]; exact Try.func9) rfl rfl ?_
  repeat (first | refine LOps.nil ?_ | refine andThen_normal ?_ | refine andThen_exit ?_ | refine andThen_ret ?_ | refine inBlock_normal ?_ | refine inBlock_ret ?_ | refine inBlock_here ?_ | refine inBlock_out rfl ?_ | refine LWp.seq ?_ | refine LWp.region ?_ | refine LWp.block ?_ | refine LWp.exit ?_ | refine LWp.ret ?_ | refine LWp.skip ?_ | refine LOps.valA ?_ | refine LOps.outA ?_ | refine LOps.whenA ?_ | refine LOps.pickA ?_ | refine LOps.storeA ?_)
  refine LOps.do (LDo.callF (new_L hP _) (by rw [hP]; exact Try.func10)) rfl rfl rfl ?_
  rintro _ S1 ⟨le1, b, rfl, _, H1⟩
  have n1 : ∀ x, newIn S S1 x → S.top ≤ x := fun x hx => hx.1
  repeat (first | refine LOps.nil ?_ | refine andThen_normal ?_ | refine andThen_exit ?_ | refine andThen_ret ?_ | refine inBlock_normal ?_ | refine inBlock_ret ?_ | refine inBlock_here ?_ | refine inBlock_out rfl ?_ | refine LWp.seq ?_ | refine LWp.region ?_ | refine LWp.block ?_ | refine LWp.exit ?_ | refine LWp.ret ?_ | refine LWp.skip ?_ | refine LOps.valA ?_ | refine LOps.outA ?_ | refine LOps.whenA ?_ | refine LOps.pickA ?_ | refine LOps.storeA ?_)
  refine LOps.do (LDo.callF (begin_L hP 1 wk1.op (by simp [wk1]) _ b [] _ (by simp) _ H1) (by rw [hP]; exact Try.func11)) rfl rfl rfl ?_
  intro r S2 hp
  obtain ⟨rfl, o2, H2⟩ := hp.some (k := ⟨1, noAns⟩) (by decide +kernel)
  have le2 := le1.newOnly o2 n1 hwf
  have n2 := grow_new (S' := S2) n1 le1.top
  repeat (first | refine LOps.nil ?_ | refine andThen_normal ?_ | refine andThen_exit ?_ | refine andThen_ret ?_ | refine inBlock_normal ?_ | refine inBlock_ret ?_ | refine inBlock_here ?_ | refine inBlock_out rfl ?_ | refine LWp.seq ?_ | refine LWp.region ?_ | refine LWp.block ?_ | refine LWp.exit ?_ | refine LWp.ret ?_ | refine LWp.skip ?_ | refine LOps.valA ?_ | refine LOps.outA ?_ | refine LOps.whenA ?_ | refine LOps.pickA ?_ | refine LOps.storeA ?_)
  refine LOps.do (LDo.callF (end_L hP 1 _ b _ _ (by simp) _ H2) (by rw [hP]; exact Try.func13)) rfl rfl rfl ?_
  intro r S3 hp
  obtain ⟨rfl, o3, H3⟩ := hp.none (by decide +kernel)
  have le3 := le2.newOnly o3 n2 hwf
  have n3 := grow_new (S' := S3) n2 le2.top
  repeat (first | refine LOps.nil ?_ | refine andThen_normal ?_ | refine andThen_exit ?_ | refine andThen_ret ?_ | refine inBlock_normal ?_ | refine inBlock_ret ?_ | refine inBlock_here ?_ | refine inBlock_out rfl ?_ | refine LWp.seq ?_ | refine LWp.region ?_ | refine LWp.block ?_ | refine LWp.exit ?_ | refine LWp.ret ?_ | refine LWp.skip ?_ | refine LOps.valA ?_ | refine LOps.outA ?_ | refine LOps.whenA ?_ | refine LOps.pickA ?_ | refine LOps.storeA ?_)
  refine LOps.do (LDo.callF (mark_L hP 1 wk2.ans _ b _ _ (by simp) _ H3) (by rw [hP]; exact Try.func12)) rfl rfl rfl ?_
  intro r S4 hp
  obtain ⟨rfl, o4, H4⟩ := hp.some (k := ⟨2, wk2.ans⟩) (by decide +kernel)
  have le4 := le3.newOnly o4 n3 hwf
  have n4 := grow_new (S' := S4) n3 le3.top
  repeat (first | refine LOps.nil ?_ | refine andThen_normal ?_ | refine andThen_exit ?_ | refine andThen_ret ?_ | refine inBlock_normal ?_ | refine inBlock_ret ?_ | refine inBlock_here ?_ | refine inBlock_out rfl ?_ | refine LWp.seq ?_ | refine LWp.region ?_ | refine LWp.block ?_ | refine LWp.exit ?_ | refine LWp.ret ?_ | refine LWp.skip ?_ | refine LOps.valA ?_ | refine LOps.outA ?_ | refine LOps.whenA ?_ | refine LOps.pickA ?_ | refine LOps.storeA ?_)
  refine LOps.do (LDo.callF (end_L hP 1 _ b _ _ (by simp) _ H4) (by rw [hP]; exact Try.func13)) rfl rfl rfl ?_
  intro r S5 hp
  obtain ⟨rfl, o5, H5⟩ := hp.some (k := ⟨3, wk2.ans⟩) (by decide +kernel)
  have le5 := le4.newOnly o5 n4 hwf
  have n5 := grow_new (S' := S5) n4 le4.top
  repeat (first | refine LOps.nil ?_ | refine andThen_normal ?_ | refine andThen_exit ?_ | refine andThen_ret ?_ | refine inBlock_normal ?_ | refine inBlock_ret ?_ | refine inBlock_here ?_ | refine inBlock_out rfl ?_ | refine LWp.seq ?_ | refine LWp.region ?_ | refine LWp.block ?_ | refine LWp.exit ?_ | refine LWp.ret ?_ | refine LWp.skip ?_ | refine LOps.valA ?_ | refine LOps.outA ?_ | refine LOps.whenA ?_ | refine LOps.pickA ?_ | refine LOps.storeA ?_)
  have hev : ([] ++ [(⟨1, 1, wk1.op, noAns⟩ : Ev)] ++ [⟨2, 1, noOp, wk2.ans⟩] ++ [⟨3, 1, noOp, wk2.ans⟩]) = [wk1, wk2, wk3] := rfl
  refine LOps.do (LDo.callF (events_L hP _ b [wk1, wk2, wk3] _ (by simp) (by simp [wk1, wk2, wk3, noOp]) _ H5) (by rw [hP]; exact Try.func17)) rfl rfl rfl ?_
  rintro _ S6 ⟨rfl, le6⟩
  repeat (first | refine LOps.nil ?_ | refine andThen_normal ?_ | refine andThen_exit ?_ | refine andThen_ret ?_ | refine inBlock_normal ?_ | refine inBlock_ret ?_ | refine inBlock_here ?_ | refine inBlock_out rfl ?_ | refine LWp.seq ?_ | refine LWp.region ?_ | refine LWp.block ?_ | refine LWp.exit ?_ | refine LWp.ret ?_ | refine LWp.skip ?_ | refine LOps.val (LVal.call rfl rfl (by rw [hP]; exact Try.func18) rfl (by decide) (check_F hP [wk1, wk2, wk3] (by simp))) rfl rfl rfl ?_ | refine LOps.whenC (LVal.call rfl rfl (by rw [hP]; exact Try.func18) rfl (by decide) (check_F hP [wk1, wk2, wk3] (by simp))) ?_ | refine LOps.valA ?_ | refine LOps.outA ?_ | refine LOps.whenA ?_ | refine LOps.pickA ?_ | refine LOps.storeA ?_)
  refine ⟨_, LRes.one rfl, ?_, le5.trans le6⟩
  rfl
end Go.Proofs.Ytmdfjojohfhcgaa.LF
