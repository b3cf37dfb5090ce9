/- Histories: own, the rules. -/
import Derived.Test.YtmdfjojohfhcgaaLHb
import Derived.Test.YtmdfjojohfhcgaaLFr
set_option linter.unusedVariables false
set_option linter.unusedSimpArgs false
namespace Go.Proofs.Ytmdfjojohfhcgaa.LF
open Go.RowKit

theorem wrL_len (ws : List Wr) : ∀ c ∈ ws.map wrL, c.length = (3 : Nat) := fun c hc => by
  obtain ⟨x, _, rfl⟩ := List.mem_map.1 hc; rfl

set_option maxHeartbeats 1000000 in
theorem clone_F {G : Ctx} (hP : G.P = Try.prog) (ws : List Wr) (hl : ws.length ≤ 1000000) : LFun G 39 [.one (.sl .sh (ws.map wrL))] (.one (.sl .sh (ws.map wrL))) := LFun.of fun S => by
  have hD : TabOK G.P D := by rw [hP]; exact hD0
  refine LCalls.enter (fn := Try.f39) (by rw [hP]; exact Try.func39) rfl rfl ?_
  repeat (first | refine LOps.nil ?_ | refine andThen_normal ?_ | refine andThen_exit ?_ | refine andThen_ret ?_ | refine inBlock_normal ?_ | refine inBlock_ret ?_ | refine inBlock_here ?_ | refine inBlock_out rfl ?_ | refine LWp.seq ?_ | refine LWp.region ?_ | refine LWp.block ?_ | refine LWp.exit ?_ | refine LWp.ret ?_ | refine LWp.skip ?_ | refine LOps.valA ?_ | refine LOps.outA ?_ | refine LOps.whenA ?_ | refine LOps.pickA ?_ | refine LOps.storeA ?_)
  refine LOps.do (LDo.eqNil hD rfl rfl rfl rfl) rfl rfl rfl ?_
  rintro _ _ ⟨b, rfl, rfl, hb⟩
  repeat (first | refine LOps.nil ?_ | refine andThen_normal ?_ | refine andThen_exit ?_ | refine andThen_ret ?_ | refine inBlock_normal ?_ | refine inBlock_ret ?_ | refine inBlock_here ?_ | refine inBlock_out rfl ?_ | refine LWp.seq ?_ | refine LWp.region ?_ | refine LWp.block ?_ | refine LWp.exit ?_ | refine LWp.ret ?_ | refine LWp.skip ?_ | refine LOps.valA ?_ | refine LOps.outA ?_ | refine LOps.whenA ?_ | refine LOps.pickA ?_ | refine LOps.storeA ?_)
  refine LWp.cond rfl (fun h => ?_) (fun h => ?_)
  · repeat (first | refine LOps.nil ?_ | refine andThen_normal ?_ | refine andThen_exit ?_ | refine andThen_ret ?_ | refine inBlock_normal ?_ | refine inBlock_ret ?_ | refine inBlock_here ?_ | refine inBlock_out rfl ?_ | refine LWp.seq ?_ | refine LWp.region ?_ | refine LWp.block ?_ | refine LWp.exit ?_ | refine LWp.ret ?_ | refine LWp.skip ?_ | refine LOps.valA ?_ | refine LOps.outA ?_ | refine LOps.whenA ?_ | refine LOps.pickA ?_ | refine LOps.storeA ?_)
    refine ⟨_, LRes.sh (LRes.one rfl), ?_, .refl _⟩
    have : ws = [] := by simpa using hb h
    subst this; rfl
  · repeat (first | refine LOps.nil ?_ | refine andThen_normal ?_ | refine andThen_exit ?_ | refine andThen_ret ?_ | refine inBlock_normal ?_ | refine inBlock_ret ?_ | refine inBlock_here ?_ | refine inBlock_out rfl ?_ | refine LWp.seq ?_ | refine LWp.region ?_ | refine LWp.block ?_ | refine LWp.exit ?_ | refine LWp.ret ?_ | refine LWp.skip ?_ | refine LOps.valA ?_ | refine LOps.outA ?_ | refine LOps.whenA ?_ | refine LOps.pickA ?_ | refine LOps.storeA ?_)
    refine LOps.do (LDo.emptySlice hD rfl rfl rfl rfl rfl rfl rfl) rfl rfl rfl ?_
    rintro _ _ ⟨br, hbr, rfl, rfl⟩
    repeat (first | refine LOps.nil ?_ | refine andThen_normal ?_ | refine andThen_exit ?_ | refine andThen_ret ?_ | refine inBlock_normal ?_ | refine inBlock_ret ?_ | refine inBlock_here ?_ | refine inBlock_out rfl ?_ | refine LWp.seq ?_ | refine LWp.region ?_ | refine LWp.block ?_ | refine LWp.exit ?_ | refine LWp.ret ?_ | refine LWp.skip ?_ | refine LOps.valA ?_ | refine LOps.outA ?_ | refine LOps.whenA ?_ | refine LOps.pickA ?_ | refine LOps.storeA ?_)
    refine LOps.do (LDo.appendN hD rfl rfl rfl rfl rfl rfl rfl rfl rfl (show [].length = 0 from rfl) (show _ = ws.length by simp) (.new _ _ _ _) (wrL_len ws) (by omega)) rfl rfl rfl ?_
    rintro _ S2 ⟨o', rfl, hown, hup, hno⟩
    repeat (first | refine LOps.nil ?_ | refine andThen_normal ?_ | refine andThen_exit ?_ | refine andThen_ret ?_ | refine inBlock_normal ?_ | refine inBlock_ret ?_ | refine inBlock_here ?_ | refine inBlock_out rfl ?_ | refine LWp.seq ?_ | refine LWp.region ?_ | refine LWp.block ?_ | refine LWp.exit ?_ | refine LWp.ret ?_ | refine LWp.skip ?_ | refine LOps.valA ?_ | refine LOps.outA ?_ | refine LOps.whenA ?_ | refine LOps.pickA ?_ | refine LOps.storeA ?_)
    refine ⟨_, LRes.sh (LRes.one rfl), ?_, (LS.le.newRow (.refl _) hbr _ _).upto hup (.fresh (.refl _) hbr)⟩
    rfl

theorem own_F {G : Ctx} (hP : G.P = Try.prog) (x : OpV) (hl : x.writes.length ≤ 1000000) : LFun G 32 [.agg (opL x)] (.agg (opL x)) := LFun.of fun S => by
  have hD : TabOK G.P D := by rw [hP]; exact hD0
  refine LCalls.enter (fn := Try.f32) (by rw [hP]; exact Try.func32) rfl rfl ?_
  repeat (first | refine LOps.nil ?_ | refine andThen_normal ?_ | refine andThen_exit ?_ | refine andThen_ret ?_ | refine inBlock_normal ?_ | refine inBlock_ret ?_ | refine inBlock_here ?_ | refine inBlock_out rfl ?_ | refine LWp.seq ?_ | refine LWp.region ?_ | refine LWp.block ?_ | refine LWp.exit ?_ | refine LWp.ret ?_ | refine LWp.skip ?_ | refine LOps.valA ?_ | refine LOps.outA ?_ | refine LOps.whenA ?_ | refine LOps.pickA ?_ | refine LOps.storeA ?_)
  refine LOps.do (LDo.box rfl rfl) rfl rfl rfl ?_
  rintro _ _ ⟨b1, hb1, rfl, rfl⟩
  repeat (first | refine LOps.nil ?_ | refine andThen_normal ?_ | refine andThen_exit ?_ | refine andThen_ret ?_ | refine inBlock_normal ?_ | refine inBlock_ret ?_ | refine inBlock_here ?_ | refine inBlock_out rfl ?_ | refine LWp.seq ?_ | refine LWp.region ?_ | refine LWp.block ?_ | refine LWp.exit ?_ | refine LWp.ret ?_ | refine LWp.skip ?_ | refine LOps.valA ?_ | refine LOps.outA ?_ | refine LOps.whenA ?_ | refine LOps.pickA ?_ | refine LOps.storeA ?_)
  refine LOps.do (LDo.alloc hD rfl rfl rfl) rfl rfl rfl ?_
  rintro _ _ ⟨b2, hb2, rfl, rfl⟩
  have hne : b1 ≠ b2 := fresh_ne hb2 (box_new _ _ _)
  have hne' := hne.symm
  repeat (first | refine LOps.nil ?_ | refine andThen_normal ?_ | refine andThen_exit ?_ | refine andThen_ret ?_ | refine inBlock_normal ?_ | refine inBlock_ret ?_ | refine inBlock_here ?_ | refine inBlock_out rfl ?_ | refine LWp.seq ?_ | refine LWp.region ?_ | refine LWp.block ?_ | refine LWp.exit ?_ | refine LWp.ret ?_ | refine LWp.skip ?_ | refine LOps.val (LVal.call rfl rfl (by rw [hP]; exact Try.func39) rfl (by decide) (clone_F hP x.writes hl)) rfl rfl rfl ?_ | refine LOps.whenC (LVal.call rfl rfl (by rw [hP]; exact Try.func39) rfl (by decide) (clone_F hP x.writes hl)) ?_ | refine LOps.valA ?_ | refine LOps.outA ?_ | refine LOps.whenA ?_ | refine LOps.pickA ?_ | refine LOps.storeA ?_)
  refine ⟨_, LRes.cell rfl (.cell rfl (box_set _ _ _) (hP ▸ tok29) rfl), ?_, ?_⟩
  · rfl
  · exact ((((LS.le.newBox (.refl _) hb1 _).newBox hb2 _).setBox hb1.box _).setBox (by
      have := hb2.box
      rw [box_new_ne _ _ hne.symm] at this
      exact this) _)

/-- What is known of an Id. -/
structure Kn where
  st : Int
  ans : Ans
deriving DecidableEq
def noKn : Kn := ⟨0, noAns⟩
def knV (k : Kn) : Value := .agg #[.int .u8 k.st, .int .i64 k.ans.code, .bool k.ans.found, .string k.ans.key, .string k.ans.val]
def knL (k : Kn) : List LV := [uv k.st, iv k.ans.code, bv k.ans.found, sv k.ans.key, sv k.ans.val]

def badS (k : Kn) (e : Ev) : Bool := (decide (e.id < 1) || (e.kind != IntKind.u8.wrap (k.st + 1))) || decide (e.kind > 3)
def takesS (k : Kn) (e : Ev) : Option Kn :=
  if badS k e then none
  else if e.kind = 1 then (if e.ans = noAns then some ⟨e.kind, k.ans⟩ else none)
  else if e.kind = 2 then (if bareS e.op then some ⟨e.kind, e.ans⟩ else none)
  else if e.kind = 3 then (if !bareS e.op || !decide (e.ans = k.ans) then none else some ⟨e.kind, k.ans⟩)
  else some ⟨e.kind, k.ans⟩

/-- What a rules' map says. -/
def Rules (al : List (Int × Value)) (f : Int → Kn) : Prop := ∀ id, (alGet al id).getD ti62.zero = knV (f id)
theorem Rules.empty : Rules [] fun _ => noKn := fun _ => rfl
theorem Rules.put {al : List (Int × Value)} {f : Int → Kn} (h : Rules al f) (id : Int) (k : Kn) : Rules (alPut al id (knV k)) fun j => if j = id then k else f j := fun j => by
  rw [alGet_put]
  by_cases e : j = id
  · simp [e]
  · simp [e, h j]

set_option maxHeartbeats 8000000 in
theorem takes_L {G : Ctx} (hP : G.P = Try.prog) (e : Ev) (m : Nat) (al : List (Int × Value)) (f : Int → Kn) (hr : Rules al f) (S : LS) (hm : MapAt S m al) :
    LCalls G 33 [.one (.v (.map (some m))), .agg (evL e)] (fun r S' => S.only (· = m) S' ∧ r = .one (bv (takesS (f e.id) e).isSome) ∧
      (takesS (f e.id) e = none → MapAt S' m al) ∧ ∀ k, takesS (f e.id) e = some k → MapAt S' m (alPut al e.id (knV k))) S := by
  have hD : TabOK G.P D := by rw [hP]; exact hD0
  have ea : EqTy G.P D 32 := by rw [hP]; exact eqAns
  obtain ⟨k, hk⟩ : ∃ k, k = f e.id := ⟨_, rfl⟩
  have hke : (alGet al e.id).getD ti62.zero = knV k := by rw [hk]; exact hr e.id
  rw [← hk]
  refine LCalls.enter (fn := Try.f33) (by rw [hP]; exact Try.func33) rfl rfl ?_
  repeat (first | refine LOps.nil ?_ | refine andThen_normal ?_ | refine andThen_exit ?_ | refine andThen_ret ?_ | refine inBlock_normal ?_ | refine inBlock_ret ?_ | refine inBlock_here ?_ | refine inBlock_out rfl ?_ | refine LWp.seq ?_ | refine LWp.region ?_ | refine LWp.block ?_ | refine LWp.exit ?_ | refine LWp.ret ?_ | refine LWp.skip ?_ | refine LOps.valA ?_ | refine LOps.outA ?_ | refine LOps.whenA ?_ | refine LOps.pickA ?_ | refine LOps.storeA ?_)
  refine LOps.do (LDo.box rfl rfl) rfl rfl rfl ?_
  rintro _ _ ⟨b3, hb3, rfl, rfl⟩
  have hm3 : MapAt (S.newBox b3 (evL e)) m al := hm
  repeat (first | refine LOps.val (r := .agg (knL k)) (LVal.lookup hD rfl rfl rfl rfl rfl rfl rfl rfl rfl hm3 hke rfl) rfl rfl rfl ?_ | refine LOps.nil ?_ | refine andThen_normal ?_ | refine andThen_exit ?_ | refine andThen_ret ?_ | refine inBlock_normal ?_ | refine inBlock_ret ?_ | refine inBlock_here ?_ | refine inBlock_out rfl ?_ | refine LWp.seq ?_ | refine LWp.region ?_ | refine LWp.block ?_ | refine LWp.exit ?_ | refine LWp.ret ?_ | refine LWp.skip ?_ | refine LOps.valA ?_ | refine LOps.outA ?_ | refine LOps.whenA ?_ | refine LOps.pickA ?_ | refine LOps.storeA ?_)
  refine LOps.do (LDo.alloc hD rfl rfl rfl) rfl rfl rfl ?_
  rintro _ _ ⟨b5, hb5, rfl, rfl⟩
  have hne : b3 ≠ b5 := fresh_ne hb5 (box_new _ _ _)
  have hne' := hne.symm
  have hn5 : S.box b5 = none := (box_new_ne S (evL e) hne').symm.trans hb5.box
  repeat (first | refine LOps.nil ?_ | refine andThen_normal ?_ | refine andThen_exit ?_ | refine andThen_ret ?_ | refine inBlock_normal ?_ | refine inBlock_ret ?_ | refine inBlock_here ?_ | refine inBlock_out rfl ?_ | refine LWp.seq ?_ | refine LWp.region ?_ | refine LWp.block ?_ | refine LWp.exit ?_ | refine LWp.ret ?_ | refine LWp.skip ?_ | refine LOps.valA ?_ | refine LOps.outA ?_ | refine LOps.whenA ?_ | refine LOps.pickA ?_ | refine LOps.storeA ?_)
  refine LWp.gen (fun S' => S.only (· = m) S' ∧ MapAt S' m al ∧ S'.box b3 = some (evL e) ∧ S'.box b5 = some (knL k)) ⟨(((LS.le.newBox (.refl _) hb3 _).newBox hb5 _).setBox hn5 _).only _, hm, ?_, box_set _ _ _⟩ ?_
  · exact (box_set_ne _ _ hne).trans ((box_new_ne _ _ hne).trans (box_new _ _ _))
  rintro S1 ⟨o1, m1, k3, k5⟩
  refine LWp.cond rfl (fun h => ?_) (fun h => ?_)
  · have h : badS k e = true := h
    repeat (first | refine LOps.nil ?_ | refine andThen_normal ?_ | refine andThen_exit ?_ | refine andThen_ret ?_ | refine inBlock_normal ?_ | refine inBlock_ret ?_ | refine inBlock_here ?_ | refine inBlock_out rfl ?_ | refine LWp.seq ?_ | refine LWp.region ?_ | refine LWp.block ?_ | refine LWp.exit ?_ | refine LWp.ret ?_ | refine LWp.skip ?_ | refine LOps.valA ?_ | refine LOps.outA ?_ | refine LOps.whenA ?_ | refine LOps.pickA ?_ | refine LOps.storeA ?_)
    refine ⟨_, LRes.one rfl, o1, ?_, fun _ => m1, ?_⟩
    · simp [takesS, h]; rfl
    · intro k' hk'; simp [takesS, h] at hk'
  have hbad : badS k e = false := h
  have htk : takesS k e = if e.kind = 1 then (if e.ans = noAns then some ⟨e.kind, k.ans⟩ else none)
      else if e.kind = 2 then (if bareS e.op then some ⟨e.kind, e.ans⟩ else none)
      else if e.kind = 3 then (if !bareS e.op || !decide (e.ans = k.ans) then none else some ⟨e.kind, k.ans⟩)
      else some ⟨e.kind, k.ans⟩ := by unfold takesS; rw [hbad]; rfl
  repeat (first | refine LWp.seq (LWp.cut 5 (fun T' S' => ∃ a T'', takesS k e = some ⟨e.kind, a⟩ ∧ S.only (· = m) S' ∧ MapAt S' m al ∧ S'.box b3 = some (evL e) ∧ S'.box b5 = some (knL ⟨k.st, a⟩) ∧ T' = over T'' [(0, .one (.v (.map (some m)))), (3, .one (.v (.pointer (some ⟨b3, 0, none⟩)))), (5, .one (.v (.pointer (some ⟨b5, 0, none⟩))))]) rfl ?_ ?_) | refine LOps.nil ?_ | refine andThen_normal ?_ | refine andThen_exit ?_ | refine andThen_ret ?_ | refine inBlock_normal ?_ | refine inBlock_ret ?_ | refine inBlock_here ?_ | refine inBlock_out rfl ?_ | refine LWp.seq ?_ | refine LWp.region ?_ | refine LWp.block ?_ | refine LWp.exit ?_ | refine LWp.ret ?_ | refine LWp.skip ?_ | refine LOps.valA ?_ | refine LOps.outA ?_ | refine LOps.whenA ?_ | refine LOps.pickA ?_ | refine LOps.storeA ?_)
  · repeat (first | refine LOps.nil ?_ | refine andThen_normal ?_ | refine andThen_exit ?_ | refine andThen_ret ?_ | refine inBlock_normal ?_ | refine inBlock_ret ?_ | refine inBlock_here ?_ | refine inBlock_out rfl ?_ | refine LWp.seq ?_ | refine LWp.region ?_ | refine LWp.block ?_ | refine LWp.exit ?_ | refine LWp.ret ?_ | refine LWp.skip ?_ | refine LOps.valA ?_ | refine LOps.outA ?_ | refine LOps.whenA ?_ | refine LOps.pickA ?_ | refine LOps.storeA ?_)
    refine LWp.cond rfl (fun h => ?_) (fun h => ?_)
    · have h1 : e.kind = 1 := by simpa using h
      repeat (first | refine LOps.nil ?_ | refine andThen_normal ?_ | refine andThen_exit ?_ | refine andThen_ret ?_ | refine inBlock_normal ?_ | refine inBlock_ret ?_ | refine inBlock_here ?_ | refine inBlock_out rfl ?_ | refine LWp.seq ?_ | refine LWp.region ?_ | refine LWp.block ?_ | refine LWp.exit ?_ | refine LWp.ret ?_ | refine LWp.skip ?_ | refine LOps.valA ?_ | refine LOps.outA ?_ | refine LOps.whenA ?_ | refine LOps.pickA ?_ | refine LOps.storeA ?_)
      refine LWp.cond rfl (fun h => ?_) (fun h => ?_)
      · have h : (!decide (e.ans = noAns)) = true := by rw [← ans_eq]; exact h
        have hn : takesS k e = none := by rw [htk, if_pos h1, if_neg (by simpa using h)]
        repeat (first | refine LOps.nil ?_ | refine andThen_normal ?_ | refine andThen_exit ?_ | refine andThen_ret ?_ | refine inBlock_normal ?_ | refine inBlock_ret ?_ | refine inBlock_here ?_ | refine inBlock_out rfl ?_ | refine LWp.seq ?_ | refine LWp.region ?_ | refine LWp.block ?_ | refine LWp.exit ?_ | refine LWp.ret ?_ | refine LWp.skip ?_ | refine LOps.valA ?_ | refine LOps.outA ?_ | refine LOps.whenA ?_ | refine LOps.pickA ?_ | refine LOps.storeA ?_)
        refine ⟨_, LRes.one rfl, o1, ?_, fun _ => m1, ?_⟩
        · rw [hn]; rfl
        · intro k' hk'; rw [hn] at hk'; cases hk'
      · have h : (!decide (e.ans = noAns)) = false := by rw [← ans_eq]; exact h
        repeat (first | refine LOps.nil ?_ | refine andThen_normal ?_ | refine andThen_exit ?_ | refine andThen_ret ?_ | refine inBlock_normal ?_ | refine inBlock_ret ?_ | refine inBlock_here ?_ | refine inBlock_out rfl ?_ | refine LWp.seq ?_ | refine LWp.region ?_ | refine LWp.block ?_ | refine LWp.exit ?_ | refine LWp.ret ?_ | refine LWp.skip ?_ | refine LOps.valA ?_ | refine LOps.outA ?_ | refine LOps.whenA ?_ | refine LOps.pickA ?_ | refine LOps.storeA ?_)
        exact ⟨k.ans, _, by rw [htk, if_pos h1, if_pos (by simpa using h)], o1, m1, k3, k5, holds.over ⟨rfl, rfl, rfl, trivial⟩⟩
    have h1 : ¬ e.kind = 1 := by simpa using h
    repeat (first | refine LOps.nil ?_ | refine andThen_normal ?_ | refine andThen_exit ?_ | refine andThen_ret ?_ | refine inBlock_normal ?_ | refine inBlock_ret ?_ | refine inBlock_here ?_ | refine inBlock_out rfl ?_ | refine LWp.seq ?_ | refine LWp.region ?_ | refine LWp.block ?_ | refine LWp.exit ?_ | refine LWp.ret ?_ | refine LWp.skip ?_ | refine LOps.valA ?_ | refine LOps.outA ?_ | refine LOps.whenA ?_ | refine LOps.pickA ?_ | refine LOps.storeA ?_)
    refine LWp.cond rfl (fun h => ?_) (fun h => ?_)
    · have h2 : e.kind = 2 := by simpa using h
      repeat (first | refine LOps.nil ?_ | refine andThen_normal ?_ | refine andThen_exit ?_ | refine andThen_ret ?_ | refine inBlock_normal ?_ | refine inBlock_ret ?_ | refine inBlock_here ?_ | refine inBlock_out rfl ?_ | refine LWp.seq ?_ | refine LWp.region ?_ | refine LWp.block ?_ | refine LWp.exit ?_ | refine LWp.ret ?_ | refine LWp.skip ?_ | refine LOps.valA ?_ | refine LOps.outA ?_ | refine LOps.whenA ?_ | refine LOps.pickA ?_ | refine LOps.storeA ?_)
      refine LWp.cond rfl (fun h => ?_) (fun h => ?_)
      · have h : (!bareS e.op) = true := by rw [← bare_form]; exact h
        have hn : takesS k e = none := by rw [htk, if_neg h1, if_pos h2, if_neg (by simpa using h)]
        repeat (first | refine LOps.nil ?_ | refine andThen_normal ?_ | refine andThen_exit ?_ | refine andThen_ret ?_ | refine inBlock_normal ?_ | refine inBlock_ret ?_ | refine inBlock_here ?_ | refine inBlock_out rfl ?_ | refine LWp.seq ?_ | refine LWp.region ?_ | refine LWp.block ?_ | refine LWp.exit ?_ | refine LWp.ret ?_ | refine LWp.skip ?_ | refine LOps.valA ?_ | refine LOps.outA ?_ | refine LOps.whenA ?_ | refine LOps.pickA ?_ | refine LOps.storeA ?_)
        refine ⟨_, LRes.one rfl, o1, ?_, fun _ => m1, ?_⟩
        · rw [hn]; rfl
        · intro k' hk'; rw [hn] at hk'; cases hk'
      · have h : (!bareS e.op) = false := by rw [← bare_form]; exact h
        repeat (first | refine LOps.nil ?_ | refine andThen_normal ?_ | refine andThen_exit ?_ | refine andThen_ret ?_ | refine inBlock_normal ?_ | refine inBlock_ret ?_ | refine inBlock_here ?_ | refine inBlock_out rfl ?_ | refine LWp.seq ?_ | refine LWp.region ?_ | refine LWp.block ?_ | refine LWp.exit ?_ | refine LWp.ret ?_ | refine LWp.skip ?_ | refine LOps.valA ?_ | refine LOps.outA ?_ | refine LOps.whenA ?_ | refine LOps.pickA ?_ | refine LOps.storeA ?_)
        refine ⟨e.ans, _, by rw [htk, if_neg h1, if_pos h2, if_pos (by simpa using h)], o1.setNew hn5 _, m1, (box_set_ne _ _ hne).trans k3, box_set _ _ _, holds.over ⟨rfl, rfl, rfl, trivial⟩⟩
    have h2 : ¬ e.kind = 2 := by simpa using h
    repeat (first | refine LOps.nil ?_ | refine andThen_normal ?_ | refine andThen_exit ?_ | refine andThen_ret ?_ | refine inBlock_normal ?_ | refine inBlock_ret ?_ | refine inBlock_here ?_ | refine inBlock_out rfl ?_ | refine LWp.seq ?_ | refine LWp.region ?_ | refine LWp.block ?_ | refine LWp.exit ?_ | refine LWp.ret ?_ | refine LWp.skip ?_ | refine LOps.valA ?_ | refine LOps.outA ?_ | refine LOps.whenA ?_ | refine LOps.pickA ?_ | refine LOps.storeA ?_)
    refine LWp.cond rfl (fun h => ?_) (fun h => ?_)
    · have h3 : e.kind = 3 := by simpa using h
      repeat (first | refine LOps.nil ?_ | refine andThen_normal ?_ | refine andThen_exit ?_ | refine andThen_ret ?_ | refine inBlock_normal ?_ | refine inBlock_ret ?_ | refine inBlock_here ?_ | refine inBlock_out rfl ?_ | refine LWp.seq ?_ | refine LWp.region ?_ | refine LWp.block ?_ | refine LWp.exit ?_ | refine LWp.ret ?_ | refine LWp.skip ?_ | refine LOps.valA ?_ | refine LOps.outA ?_ | refine LOps.whenA ?_ | refine LOps.pickA ?_ | refine LOps.storeA ?_)
      refine LWp.cond rfl (fun h => ?_) (fun h => ?_)
      · have h : (!bareS e.op || !decide (e.ans = k.ans)) = true := by rw [← bare_form, ← ans_eq]; exact h
        have hn : takesS k e = none := by rw [htk, if_neg h1, if_neg h2, if_pos h3, if_pos h]
        repeat (first | refine LOps.nil ?_ | refine andThen_normal ?_ | refine andThen_exit ?_ | refine andThen_ret ?_ | refine inBlock_normal ?_ | refine inBlock_ret ?_ | refine inBlock_here ?_ | refine inBlock_out rfl ?_ | refine LWp.seq ?_ | refine LWp.region ?_ | refine LWp.block ?_ | refine LWp.exit ?_ | refine LWp.ret ?_ | refine LWp.skip ?_ | refine LOps.valA ?_ | refine LOps.outA ?_ | refine LOps.whenA ?_ | refine LOps.pickA ?_ | refine LOps.storeA ?_)
        refine ⟨_, LRes.one rfl, o1, ?_, fun _ => m1, ?_⟩
        · rw [hn]; rfl
        · intro k' hk'; rw [hn] at hk'; cases hk'
      · have h : (!bareS e.op || !decide (e.ans = k.ans)) = false := by rw [← bare_form, ← ans_eq]; exact h
        repeat (first | refine LOps.nil ?_ | refine andThen_normal ?_ | refine andThen_exit ?_ | refine andThen_ret ?_ | refine inBlock_normal ?_ | refine inBlock_ret ?_ | refine inBlock_here ?_ | refine inBlock_out rfl ?_ | refine LWp.seq ?_ | refine LWp.region ?_ | refine LWp.block ?_ | refine LWp.exit ?_ | refine LWp.ret ?_ | refine LWp.skip ?_ | refine LOps.valA ?_ | refine LOps.outA ?_ | refine LOps.whenA ?_ | refine LOps.pickA ?_ | refine LOps.storeA ?_)
        exact ⟨k.ans, _, by rw [htk, if_neg h1, if_neg h2, if_pos h3, if_neg (by rw [h]; simp)], o1, m1, k3, k5, holds.over ⟨rfl, rfl, rfl, trivial⟩⟩
    have h3 : ¬ e.kind = 3 := by simpa using h
    repeat (first | refine LOps.nil ?_ | refine andThen_normal ?_ | refine andThen_exit ?_ | refine andThen_ret ?_ | refine inBlock_normal ?_ | refine inBlock_ret ?_ | refine inBlock_here ?_ | refine inBlock_out rfl ?_ | refine LWp.seq ?_ | refine LWp.region ?_ | refine LWp.block ?_ | refine LWp.exit ?_ | refine LWp.ret ?_ | refine LWp.skip ?_ | refine LOps.valA ?_ | refine LOps.outA ?_ | refine LOps.whenA ?_ | refine LOps.pickA ?_ | refine LOps.storeA ?_)
    exact ⟨k.ans, _, by rw [htk, if_neg h1, if_neg h2, if_neg h3], o1, m1, k3, k5, holds.over ⟨rfl, rfl, rfl, trivial⟩⟩
  rintro T' S2 ⟨a, T'', ht, o2, m2, q3, q5, rfl⟩
  clear o1 m1 k3 k5
  repeat (first | refine LOps.nil ?_ | refine andThen_normal ?_ | refine andThen_exit ?_ | refine andThen_ret ?_ | refine inBlock_normal ?_ | refine inBlock_ret ?_ | refine inBlock_here ?_ | refine inBlock_out rfl ?_ | refine LWp.seq ?_ | refine LWp.region ?_ | refine LWp.block ?_ | refine LWp.exit ?_ | refine LWp.ret ?_ | refine LWp.skip ?_ | refine LOps.valA ?_ | refine LOps.outA ?_ | refine LOps.whenA ?_ | refine LOps.pickA ?_ | refine LOps.storeA ?_)
  refine LOps.do0 (LDo.mapUpdate (v := knV ⟨e.kind, a⟩) hD rfl rfl rfl rfl rfl rfl rfl rfl rfl (show MapAt _ m al from m2)) rfl rfl ?_
  rintro _ S3 ⟨rfl, ob, rfl, m3⟩
  repeat (first | refine LOps.nil ?_ | refine andThen_normal ?_ | refine andThen_exit ?_ | refine andThen_ret ?_ | refine inBlock_normal ?_ | refine inBlock_ret ?_ | refine inBlock_here ?_ | refine inBlock_out rfl ?_ | refine LWp.seq ?_ | refine LWp.region ?_ | refine LWp.block ?_ | refine LWp.exit ?_ | refine LWp.ret ?_ | refine LWp.skip ?_ | refine LOps.valA ?_ | refine LOps.outA ?_ | refine LOps.whenA ?_ | refine LOps.pickA ?_ | refine LOps.storeA ?_)
  refine ⟨_, LRes.one rfl, ?_, ?_, ?_, ?_⟩
  · exact (o2.setNew hn5 _).trans (LS.only.setObj (F := (· = m)) rfl _)
  · rw [ht]; rfl
  · intro hn; rw [ht] at hn; cases hn
  · intro k' hk'
    rw [ht] at hk'
    obtain rfl := Option.some.inj hk'
    exact m3
end Go.Proofs.Ytmdfjojohfhcgaa.LF
