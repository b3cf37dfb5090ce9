/- linear: idle; the operations by their numbers, a Go map whose values hold slices. -/
import Derived.Test.YtandbjhedkgldaaLLa
import Derived.Test.YtandbjhedkgldaaQHe
namespace Go.Proofs.Ytandbjhedkgldaa.LF
open Go.RowKit H
set_option linter.unusedVariables false

def fullA : Ans := ⟨5, false, noBytes, noBytes⟩
def busyA : Ans := ⟨6, false, noBytes, noBytes⟩
def idleS (a : Ans) : Bool := decide (a = fullA) || decide (a = busyA)

set_option maxHeartbeats 4000000 in
theorem idle_F {G : Ctx} (hP : G.P = Try.prog) (a : Ans) : LFun G 40 [.agg (ansL a)] (.one (bv (idleS a))) := LFun.of fun S => by
  have hD : TabOK G.P D := by rw [hP]; exact hD0
  have ea : EqTy G.P D 38 := by rw [hP]; exact H.eqAns
  refine LCalls.enter (fn := Try.f40) (by rw [hP]; exact Try.func40) rfl rfl ?_
  repeat (first | refine LOps.nil ?_ | refine andThen_normal ?_ | refine andThen_exit ?_ | refine andThen_ret ?_ | refine inBlock_normal ?_ | refine inBlock_ret ?_ | refine inBlock_here ?_ | refine inBlock_out rfl ?_ | refine LWp.seq ?_ | refine LWp.region ?_ | refine LWp.block ?_ | refine LWp.exit ?_ | refine LWp.ret ?_ | refine LWp.skip ?_ | refine LOps.valA ?_ | refine LOps.outA ?_ | refine LOps.whenA ?_ | refine LOps.pickA ?_ | refine LOps.storeA ?_)
  refine LOps.do (LDo.box rfl rfl) rfl rfl rfl ?_
  rintro _ _ ⟨b1, hb1, rfl, rfl⟩
  have hle : S.le (S.newBox b1 (ansL a)) := .newBox (.refl _) hb1 _
  repeat (first | refine LOps.nil ?_ | refine andThen_normal ?_ | refine andThen_exit ?_ | refine andThen_ret ?_ | refine inBlock_normal ?_ | refine inBlock_ret ?_ | refine inBlock_here ?_ | refine inBlock_out rfl ?_ | refine LWp.seq ?_ | refine LWp.region ?_ | refine LWp.block ?_ | refine LWp.exit ?_ | refine LWp.ret ?_ | refine LWp.skip ?_ | refine LOps.valA ?_ | refine LOps.outA ?_ | refine LOps.whenA ?_ | refine LOps.pickA ?_ | refine LOps.storeA ?_)
  refine ⟨_, LRes.one rfl, ?_, hle⟩
  simp only [idleS, ← ans_eq]; rfl

set_option maxHeartbeats 4000000 in
theorem refIdle_F {G : Ctx} (hP : G.P = Try.prog) (a : Ans) : LFun G 31 [.agg (ansL a)] (.one (bv (idleS a))) := LFun.of fun S => by
  have hD : TabOK G.P D := by rw [hP]; exact hD0
  refine LCalls.enter (fn := Try.f31) (by rw [hP]; exact Try.func31) rfl rfl ?_
  repeat (first | refine LOps.nil ?_ | refine andThen_normal ?_ | refine andThen_exit ?_ | refine andThen_ret ?_ | refine inBlock_normal ?_ | refine inBlock_ret ?_ | refine inBlock_here ?_ | refine inBlock_out rfl ?_ | refine LWp.seq ?_ | refine LWp.region ?_ | refine LWp.block ?_ | refine LWp.exit ?_ | refine LWp.ret ?_ | refine LWp.skip ?_ | refine LOps.valA ?_ | refine LOps.outA ?_ | refine LOps.whenA ?_ | refine LOps.pickA ?_ | refine LOps.storeA ?_)
  refine LOps.do (LDo.box rfl rfl) rfl rfl rfl ?_
  rintro _ _ ⟨b1, hb1, rfl, rfl⟩
  have hle : S.le (S.newBox b1 (ansL a)) := .newBox (.refl _) hb1 _
  repeat (first | refine LOps.nil ?_ | refine andThen_normal ?_ | refine andThen_exit ?_ | refine andThen_ret ?_ | refine inBlock_normal ?_ | refine inBlock_ret ?_ | refine inBlock_here ?_ | refine inBlock_out rfl ?_ | refine LWp.seq ?_ | refine LWp.region ?_ | refine LWp.block ?_ | refine LWp.exit ?_ | refine LWp.ret ?_ | refine LWp.skip ?_ | refine LOps.valA ?_ | refine LOps.outA ?_ | refine LOps.whenA ?_ | refine LOps.pickA ?_ | refine LOps.storeA ?_)
  refine ⟨_, LRes.one rfl, ?_, hle⟩
  have e : ((((((a.code == 5) || (a.code == 6)) && !a.found) && decide (a.key = noBytes)) && decide (a.val = noBytes))) = idleS a := by
    obtain ⟨c, f, k, v⟩ := a
    simp only [idleS, fullA, busyA, Ans.mk.injEq, Bool.decide_and, beq_dec]
    by_cases h1 : c = 5 <;> by_cases h2 : c = 6 <;> cases f <;> by_cases h3 : k = noBytes <;> by_cases h4 : v = noBytes <;> simp [h1, h2, h3, h4]
  exact congrArg (fun b => TV.one (bv b)) e

/-- A raw operation as a value. -/
def opV (p : OpV × Value) : Value := .agg #[.int .u8 p.1.kind, .string p.1.key, .string p.1.val, .string p.1.old, .bool p.1.had, .bool p.1.after, p.2]
theorem opV_raw (p : OpV × Value) : rawTV (opV p) = .agg (opR p) := rfl
theorem opV_flat (p : OpV × Value) (h : p.2.oneCell' = true) : flatV (opV p) = true := by
  obtain ⟨o, s⟩ := p
  have : ∀ s : Value, s.oneCell' = true → (Value.agg #[.int .u8 o.kind, .string o.key, .string o.val, .string o.old, .bool o.had, .bool o.after, s]).cells.toList.all Value.oneCell' = true := fun s h => by
    have e : ∀ a b c d e f : Value, a.oneCell' = true → b.oneCell' = true → c.oneCell' = true → d.oneCell' = true → e.oneCell' = true → f.oneCell' = true → (Value.agg #[a, b, c, d, e, f, s]).cells.toList.all Value.oneCell' = true := fun a b c d e f h1 h2 h3 h4 h5 h6 => by simp only [Value.cells, List.all_cons, List.all_nil, h1, h2, h3, h4, h5, h6, h, Bool.and_self]
    exact e _ _ _ _ _ _ rfl rfl rfl rfl rfl rfl
  exact this s h

def bareR : OpV × Value := (noOp, .slice none 0 0)
def opsAt (f : Int → OpV × Value) (p : Ev × Value) : Int → OpV × Value := if p.1.kind = 1 then fun id => if id = p.1.id then (p.1.op, p.2) else f id else f
def opsR (res : List (Ev × Value)) : Int → OpV × Value := res.foldl opsAt fun _ => bareR
def opsAtS (f : Int → OpV) (e : Ev) : Int → OpV := if e.kind = 1 then fun id => if id = e.id then e.op else f id else f
/-- The operations by their numbers. -/
def opsS (l : List Ev) : Int → OpV := l.foldl opsAtS fun _ => noOp
def OpsIs (al : List (Int × Value)) (f : Int → OpV × Value) : Prop := ∀ id, (alGet al id).getD ti34.zero = opV (f id)
theorem OpsIs.empty : OpsIs [] fun _ => bareR := fun _ => rfl
theorem OpsIs.put {al : List (Int × Value)} {f : Int → OpV × Value} (h : OpsIs al f) (p : Ev × Value) (hk : p.1.kind = 1) : OpsIs (alPut al p.1.id (opV (p.1.op, p.2))) (opsAt f p) := fun j => by
  rw [alGet_put, opsAt, if_pos hk]
  by_cases e : j = p.1.id
  · simp [e]
  · simp [e, h j]
theorem opsR_take {res : List (Ev × Value)} {j : Nat} (h : j < res.length) : opsR (res.take (j + 1)) = opsAt (opsR (res.take j)) res[j] := by
  unfold opsR
  rw [List.take_succ_eq_append_getElem h, List.foldl_append]; rfl
theorem opsR_S (res : List (Ev × Value)) (id : Int) : (opsR res id).1 = opsS (res.map Prod.fst) id := by
  have : ∀ (res : List (Ev × Value)) (f : Int → OpV × Value) (g : Int → OpV), (∀ id, (f id).1 = g id) → (res.foldl opsAt f id).1 = (res.map Prod.fst).foldl opsAtS g id := by
    intro res
    induction res with
    | nil => exact fun f g h => h id
    | cons p res ih =>
      intro f g h
      refine ih _ _ fun id => ?_
      unfold opsAt opsAtS
      split
      · dsimp only; split <;> simp [h]
      · exact h id
  exact this res _ _ fun _ => rfl
theorem opsR_mem (res : List (Ev × Value)) (id : Int) : opsR res id = bareR ∨ ∃ p ∈ res, opsR res id = (p.1.op, p.2) := by
  have : ∀ (res : List (Ev × Value)) (f : Int → OpV × Value) (R : OpV × Value → Prop), R (f id) → (∀ p ∈ res, R (p.1.op, p.2)) → R (res.foldl opsAt f id) := by
    intro res
    induction res with
    | nil => exact fun f R h _ => h
    | cons p res ih =>
      intro f R h hp
      refine ih _ R ?_ fun q hq => hp q (List.mem_cons_of_mem _ hq)
      unfold opsAt
      split
      · dsimp only; split
        · exact hp p (by simp)
        · exact h
      · exact h
  exact this res _ (fun x => x = bareR ∨ ∃ p ∈ res, x = (p.1.op, p.2)) (.inl rfl) fun p hp => .inr ⟨p, hp, rfl⟩
theorem Stands.ops {G : Ctx} {res : List (Ev × Value)} (h : Stands G res) (id : Int) : ∀ K w, G.since K w → Rep G w K (.sl .sh ((opsR res id).1.writes.map wrL)) (opsR res id).2 := fun K w hk => by
  rcases opsR_mem res id with e | ⟨p, hp, e⟩
  · rw [e]; exact .emp none 0
  · rw [e]; exact h.at_ K w hk p hp G rfl

set_option maxHeartbeats 8000000 in
theorem ops_L {G : Ctx} (hP : G.P = Try.prog) (res : List (Ev × Value)) (h1 : ∀ p ∈ res, p.2.oneCell' = true) (hl : res.length ≤ 1000000) (S : LS) :
    LCalls G 48 [.one (.sl .sh (res.map evR))] (fun r S' => ∃ m al, r = .one (.v (.map (some m))) ∧ MapAt S' m al ∧ OpsIs al (opsR res) ∧ S.le S') S := .sound fun hs => by
  have hD : TabOK G.P D := by rw [hP]; exact hD0
  have hwf := hs.wf
  refine LCalls.enter (fn := Try.f48) (by rw [hP]; exact Try.func48) rfl rfl ?_
  repeat (first | refine LOps.nil ?_ | refine andThen_normal ?_ | refine andThen_exit ?_ | refine andThen_ret ?_ | refine inBlock_normal ?_ | refine inBlock_ret ?_ | refine inBlock_here ?_ | refine inBlock_out rfl ?_ | refine LWp.seq ?_ | refine LWp.region ?_ | refine LWp.block ?_ | refine LWp.exit ?_ | refine LWp.ret ?_ | refine LWp.skip ?_ | refine LOps.valA ?_ | refine LOps.outA ?_ | refine LOps.whenA ?_ | refine LOps.pickA ?_ | refine LOps.storeA ?_)
  refine LOps.do (LDo.makeMap rfl) rfl rfl rfl ?_
  rintro _ _ ⟨m, hm, rfl, rfl⟩
  repeat (first | refine LOps.nil ?_ | refine andThen_normal ?_ | refine andThen_exit ?_ | refine andThen_ret ?_ | refine inBlock_normal ?_ | refine inBlock_ret ?_ | refine inBlock_here ?_ | refine inBlock_out rfl ?_ | refine LWp.seq ?_ | refine LWp.region ?_ | refine LWp.block ?_ | refine LWp.exit ?_ | refine LWp.ret ?_ | refine LWp.skip ?_ | refine LOps.valA ?_ | refine LOps.outA ?_ | refine LOps.whenA ?_ | refine LOps.pickA ?_ | refine LOps.storeA ?_)
  refine LWp.loop (fun k T S' => ∃ T' j al, j ≤ res.length ∧ k = res.length - j ∧ S.le S' ∧ MapAt S' m al ∧ OpsIs al (opsR (res.take j)) ∧ T = over T' [(3, .one (.v (.map (some m)))), (7, .one (.sl .sh (res.map evR))), (8, .one (iv res.length)), (9, .one (iv j))]) res.length ?_ ?_
  · exact ⟨_, 0, [], by omega, by omega, LS.only.le (.newObj hm _ _), MapAt.new S m, .empty, holds.over ⟨rfl, rfl, by show TV.one (iv ((res.map evR).length : Int)) = _; rw [List.length_map], rfl, trivial⟩⟩
  rintro k T S' ⟨T', j, al, hj, rfl, hle, hma, hr, rfl⟩
  repeat (first | refine LOps.nil ?_ | refine andThen_normal ?_ | refine andThen_exit ?_ | refine andThen_ret ?_ | refine inBlock_normal ?_ | refine inBlock_ret ?_ | refine inBlock_here ?_ | refine inBlock_out rfl ?_ | refine LWp.seq ?_ | refine LWp.region ?_ | refine LWp.block ?_ | refine LWp.exit ?_ | refine LWp.ret ?_ | refine LWp.skip ?_ | refine LOps.valA ?_ | refine LOps.outA ?_ | refine LOps.whenA ?_ | refine LOps.pickA ?_ | refine LOps.storeA ?_)
  refine LWp.cond rfl (fun h => ?_) (fun h => ?_)
  · have hlt : j < res.length := by simpa using h
    have e1 := opsR_take hlt
    repeat (first | refine LOps.nil ?_ | refine andThen_normal ?_ | refine andThen_exit ?_ | refine andThen_ret ?_ | refine inBlock_normal ?_ | refine inBlock_ret ?_ | refine inBlock_here ?_ | refine inBlock_out rfl ?_ | refine LWp.seq ?_ | refine LWp.region ?_ | refine LWp.block ?_ | refine LWp.exit ?_ | refine LWp.ret ?_ | refine LWp.skip ?_ | refine LOps.valA ?_ | refine LOps.outA ?_ | refine LOps.whenA ?_ | refine LOps.pickA ?_ | refine LOps.storeA ?_)
    refine LOps.do (LDo.alloc hD rfl rfl rfl) rfl rfl rfl ?_
    rintro _ _ ⟨b5, hb5, rfl, rfl⟩
    have hn5 : S.box b5 = none := by
      cases hq : S.box b5 with
      | none => rfl
      | some x => have := hle.box _ _ hq; rw [hb5.box] at this; cases this
    repeat (first | refine LOps.nil ?_ | refine andThen_normal ?_ | refine andThen_exit ?_ | refine andThen_ret ?_ | refine inBlock_normal ?_ | refine inBlock_ret ?_ | refine inBlock_here ?_ | refine inBlock_out rfl ?_ | refine LWp.seq ?_ | refine LWp.region ?_ | refine LWp.block ?_ | refine LWp.exit ?_ | refine LWp.ret ?_ | refine LWp.skip ?_ | refine LOps.valA ?_ | refine LOps.outA ?_ | refine LOps.whenA ?_ | refine LOps.pickA ?_ | refine LOps.storeA ?_)
    refine LWp.cond rfl (fun h => ?_) (fun h => ?_)
    · have hk : res[j].1.kind = 1 := by simpa using h
      repeat (first | refine LOps.nil ?_ | refine andThen_normal ?_ | refine andThen_exit ?_ | refine andThen_ret ?_ | refine inBlock_normal ?_ | refine inBlock_ret ?_ | refine inBlock_here ?_ | refine inBlock_out rfl ?_ | refine LWp.seq ?_ | refine LWp.region ?_ | refine LWp.block ?_ | refine LWp.exit ?_ | refine LWp.ret ?_ | refine LWp.skip ?_ | refine LOps.valA ?_ | refine LOps.outA ?_ | refine LOps.whenA ?_ | refine LOps.pickA ?_ | refine LOps.storeA ?_)
      refine LOps.do0 (LDo.mapUpdate (v := opV (res[j].1.op, res[j].2)) hD rfl rfl rfl rfl rfl rfl rfl rfl (opV_flat (res[j].1.op, res[j].2) (h1 _ (List.getElem_mem hlt))) (show MapAt _ m al from hma)) rfl rfl ?_
      rintro _ S2 ⟨_, o, rfl, m2⟩
      repeat (first | refine LOps.nil ?_ | refine andThen_normal ?_ | refine andThen_exit ?_ | refine andThen_ret ?_ | refine inBlock_normal ?_ | refine inBlock_ret ?_ | refine inBlock_here ?_ | refine inBlock_out rfl ?_ | refine LWp.seq ?_ | refine LWp.region ?_ | refine LWp.block ?_ | refine LWp.exit ?_ | refine LWp.ret ?_ | refine LWp.skip ?_ | refine LOps.valA ?_ | refine LOps.outA ?_ | refine LOps.whenA ?_ | refine LOps.pickA ?_ | refine LOps.storeA ?_)
      exact ⟨res.length - (j + 1), by omega, _, j + 1, _, by omega, rfl, ((hle.newBox hb5 _).setBox hn5 _).newOnly (LS.only.setObj (F := (· = m)) rfl o) (fun x hx => by rw [hx]; exact hm.top) hwf, m2, by rw [e1]; exact hr.put _ hk, holds.over ⟨rfl, rfl, rfl, rfl, trivial⟩⟩
    · have hk : ¬ res[j].1.kind = 1 := by simpa using h
      repeat (first | refine LOps.nil ?_ | refine andThen_normal ?_ | refine andThen_exit ?_ | refine andThen_ret ?_ | refine inBlock_normal ?_ | refine inBlock_ret ?_ | refine inBlock_here ?_ | refine inBlock_out rfl ?_ | refine LWp.seq ?_ | refine LWp.region ?_ | refine LWp.block ?_ | refine LWp.exit ?_ | refine LWp.ret ?_ | refine LWp.skip ?_ | refine LOps.valA ?_ | refine LOps.outA ?_ | refine LOps.whenA ?_ | refine LOps.pickA ?_ | refine LOps.storeA ?_)
      exact ⟨res.length - (j + 1), by omega, _, j + 1, al, by omega, rfl, (hle.newBox hb5 _).setBox hn5 _, hma, by rw [e1, opsAt, if_neg hk]; exact hr, holds.over ⟨rfl, rfl, rfl, rfl, trivial⟩⟩
  · have hge : j = res.length := by simp at h; omega
    subst hge
    repeat (first | refine LOps.nil ?_ | refine andThen_normal ?_ | refine andThen_exit ?_ | refine andThen_ret ?_ | refine inBlock_normal ?_ | refine inBlock_ret ?_ | refine inBlock_here ?_ | refine inBlock_out rfl ?_ | refine LWp.seq ?_ | refine LWp.region ?_ | refine LWp.block ?_ | refine LWp.exit ?_ | refine LWp.ret ?_ | refine LWp.skip ?_ | refine LOps.valA ?_ | refine LOps.outA ?_ | refine LOps.whenA ?_ | refine LOps.pickA ?_ | refine LOps.storeA ?_)
    exact ⟨_, LRes.one rfl, m, al, rfl, hma, by rw [List.take_length] at hr; exact hr, hle⟩
end Go.Proofs.Ytandbjhedkgldaa.LF
