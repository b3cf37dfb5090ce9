/- linear.run: the witness done on a map. -/
import Derived.Test.YtandbjhedkgldaaLLb
import Derived.Test.YtandbjhedkgldaaQOk
namespace Go.Proofs.Ytandbjhedkgldaa.LF
open Go.RowKit H
set_option linter.unusedVariables false

theorem LVal.wr {G : Ctx} {o : Oper} {T : Nat → TV} {S : LS} {r r' : TV} (h : LVal G o T S r) (hc : ∀ K w v, G.since K w → RepT G w K r v → RepT G w K r' v) : LVal G o T S r' := fun K w a hi hr =>
  upon_mono (fun _ _ ⟨v, K', h1, h2, h3, h4⟩ => ⟨v, K', h1, hc _ _ _ h3.since h2, h3, h4⟩) (fun _ _ _ h => h) (h K w a hi hr)

/-- One event of the witness. -/
def runStep (ops : Int → OpV) (e : Ev) (j : Nat) (s : List Pr × Int) : List Pr × Int :=
  if ((e.kind != 2) || idleS e.ans) = true then s else (doM s.1 (ops e.id), if ((!decide (doA s.1 (ops e.id) = e.ans)) && decide (s.2 < 0)) = true then (j : Int) else s.2)
/-- Behind the first n events. -/
def runT (ops : Int → OpV) (l : List Ev) (m : List Pr) : Nat → List Pr × Int
  | 0 => (m, -1)
  | n + 1 => match l[n]? with
    | some e => runStep ops e n (runT ops l m n)
    | none => runT ops l m n
theorem runT_succ (ops : Int → OpV) {l : List Ev} (m : List Pr) {j : Nat} (h : j < l.length) : runT ops l m (j + 1) = runStep ops l[j] j (runT ops l m j) := by
  rw [runT, List.getElem?_eq_getElem h]
theorem runT_length (ops : Int → OpV) (l : List Ev) (m : List Pr) : ∀ n, (runT ops l m n).1.length ≤ m.length + 8 * n
  | 0 => by simp [runT]
  | n + 1 => by
    have ih := runT_length ops l m n
    rw [runT]
    split
    · unfold runStep
      split
      · omega
      · have := doM_length (runT ops l m n).1 (ops (by assumption : Ev).id)
        dsimp only; omega
    · omega

set_option maxHeartbeats 16000000 in
set_option maxRecDepth 10000 in
theorem runR_L {G : Ctx} (hP : G.P = Try.prog) (l : List Pr) (hl : l.length ≤ 1000) (res : List (Ev × Value)) (h1 : ∀ p ∈ res, p.2.oneCell' = true) (hst : Stands G res) (hr : res.length ≤ 1000) (S : LS) :
    LCalls G 28 [.one (.sl .sh (l.map prL)), .one (.sl .sh (res.map evR))] (fun r S' => ∃ b X, r = .tup [ptr b, .one (iv (runT (opsS (res.map Prod.fst)) (res.map Prod.fst) (newP l) res.length).2)] ∧
      OM S' b X (runT (opsS (res.map Prod.fst)) (res.map Prod.fst) (newP l) res.length).1 ∧ NewO S S' b X) S := by
  have hD : TabOK G.P D := by rw [hP]; exact hD0
  have ea : EqTy G.P D 38 := by rw [hP]; exact H.eqAns
  have hnl := newP_length l
  have hlen : (res.map Prod.fst).length = res.length := List.length_map ..
  refine LCalls.enter (fn := Try.f28) (by rw [hP]; exact Try.func28) rfl rfl ?_
  repeat (first | refine LOps.nil ?_ | refine andThen_normal ?_ | refine andThen_exit ?_ | refine andThen_ret ?_ | refine inBlock_normal ?_ | refine inBlock_ret ?_ | refine inBlock_here ?_ | refine inBlock_out rfl ?_ | refine LWp.seq ?_ | refine LWp.region ?_ | refine LWp.block ?_ | refine LWp.exit ?_ | refine LWp.ret ?_ | refine LWp.skip ?_ | refine LOps.valA ?_ | refine LOps.outA ?_ | refine LOps.whenA ?_ | refine LOps.pickA ?_ | refine LOps.storeA ?_)
  refine LOps.do (LDo.callX (new_L hP .sh l (by omega) S) (by rw [hP]; exact Try.func39)) rfl rfl rfl ?_
  rintro _ S1 ⟨b, X, rfl, m, g1, g2, g3⟩
  have nw : NewO S S1 b X := ⟨g1, g2, g3⟩
  clear g1 g2 g3
  repeat (first | refine LOps.nil ?_ | refine andThen_normal ?_ | refine andThen_exit ?_ | refine andThen_ret ?_ | refine inBlock_normal ?_ | refine inBlock_ret ?_ | refine inBlock_here ?_ | refine inBlock_out rfl ?_ | refine LWp.seq ?_ | refine LWp.region ?_ | refine LWp.block ?_ | refine LWp.exit ?_ | refine LWp.ret ?_ | refine LWp.skip ?_ | refine LOps.valA ?_ | refine LOps.outA ?_ | refine LOps.whenA ?_ | refine LOps.pickA ?_ | refine LOps.storeA ?_)
  refine LOps.do (LDo.callX (ops_L hP res h1 (by omega) S1) (by rw [hP]; exact Try.func48)) rfl rfl rfl ?_
  rintro _ S2 ⟨mm, al, rfl, hma, hal, hle2⟩
  replace m := m.le hle2
  replace nw := nw.le2 hle2
  clear hle2
  repeat (first | refine LOps.nil ?_ | refine andThen_normal ?_ | refine andThen_exit ?_ | refine andThen_ret ?_ | refine inBlock_normal ?_ | refine inBlock_ret ?_ | refine inBlock_here ?_ | refine inBlock_out rfl ?_ | refine LWp.seq ?_ | refine LWp.region ?_ | refine LWp.block ?_ | refine LWp.exit ?_ | refine LWp.ret ?_ | refine LWp.skip ?_ | refine LOps.valA ?_ | refine LOps.outA ?_ | refine LOps.whenA ?_ | refine LOps.pickA ?_ | refine LOps.storeA ?_)
  have hops : ∀ id, (opsR res id).1 = opsS (res.map Prod.fst) id := opsR_S res
  refine LWp.loop (fun k T S' => ∃ (T' : Nat → TV) (j : Nat) (X : LV), j ≤ res.length ∧ k = res.length - j ∧ OM S' b X (runT (opsS (res.map Prod.fst)) (res.map Prod.fst) (newP l) j).1 ∧ NewO S S' b X ∧ MapAt S' mm al ∧
    T = over T' [(4, ptr b), (5, .one (iv (runT (opsS (res.map Prod.fst)) (res.map Prod.fst) (newP l) j).2)), (6, .one (.v (.map (some mm)))), (13, .one (.sl .sh (res.map evR))), (14, .one (iv res.length)), (15, .one (iv j))]) res.length ?_ ?_
  · exact ⟨_, 0, X, by omega, by omega, m, nw, hma, holds.over ⟨rfl, rfl, rfl, rfl, by show TV.one (iv ((res.map evR).length : Int)) = _; rw [List.length_map], rfl, trivial⟩⟩
  clear m nw hma
  rintro k T S' ⟨T', j, X, hj, rfl, m, nw, hma, rfl⟩
  have hlr := runT_length (opsS (res.map Prod.fst)) (res.map Prod.fst) (newP l) j
  repeat (first | refine LOps.nil ?_ | refine andThen_normal ?_ | refine andThen_exit ?_ | refine andThen_ret ?_ | refine inBlock_normal ?_ | refine inBlock_ret ?_ | refine inBlock_here ?_ | refine inBlock_out rfl ?_ | refine LWp.seq ?_ | refine LWp.region ?_ | refine LWp.block ?_ | refine LWp.exit ?_ | refine LWp.ret ?_ | refine LWp.skip ?_ | refine LOps.valA ?_ | refine LOps.outA ?_ | refine LOps.whenA ?_ | refine LOps.pickA ?_ | refine LOps.storeA ?_)
  refine LWp.cond rfl (fun h => ?_) (fun h => ?_)
  · have hlt : j < res.length := by simpa using h
    have e1 := runT_succ (opsS (res.map Prod.fst)) (newP l) (show j < (res.map Prod.fst).length by rw [hlen]; exact hlt)
    rw [List.getElem_map] at e1
    generalize runT (opsS (res.map Prod.fst)) (res.map Prod.fst) (newP l) j = s at *
    have hmem := List.getElem_mem hlt
    repeat (first | refine LOps.nil ?_ | refine andThen_normal ?_ | refine andThen_exit ?_ | refine andThen_ret ?_ | refine inBlock_normal ?_ | refine inBlock_ret ?_ | refine inBlock_here ?_ | refine inBlock_out rfl ?_ | refine LWp.seq ?_ | refine LWp.region ?_ | refine LWp.block ?_ | refine LWp.exit ?_ | refine LWp.ret ?_ | refine LWp.skip ?_ | refine LOps.valA ?_ | refine LOps.outA ?_ | refine LOps.whenA ?_ | refine LOps.pickA ?_ | refine LOps.storeA ?_)
    refine LOps.do (LDo.alloc hD rfl rfl rfl) rfl rfl rfl ?_
    rintro _ _ ⟨b8, hb8, rfl, rfl⟩
    obtain ⟨n1, n2⟩ := m.noBlock hb8.box
    repeat (first | refine LOps.nil ?_ | refine andThen_normal ?_ | refine andThen_exit ?_ | refine andThen_ret ?_ | refine inBlock_normal ?_ | refine inBlock_ret ?_ | refine inBlock_here ?_ | refine inBlock_out rfl ?_ | refine LWp.seq ?_ | refine LWp.region ?_ | refine LWp.block ?_ | refine LWp.exit ?_ | refine LWp.ret ?_ | refine LWp.skip ?_ | refine LOps.val (LVal.call rfl rfl (by rw [hP]; exact Try.func40) rfl (by decide) (idle_F hP _)) rfl rfl rfl ?_ | refine LOps.whenC (LVal.call rfl rfl (by rw [hP]; exact Try.func40) rfl (by decide) (idle_F hP _)) ?_ | refine LOps.valA ?_ | refine LOps.outA ?_ | refine LOps.whenA ?_ | refine LOps.pickA ?_ | refine LOps.storeA ?_)
    have n8 : ¬ (b8 = b ∨ blockOf X = some b8) := fun h => h.elim (fun e => n1 e.symm) n2
    have hle8 : ∀ z cs, S'.le ((S'.newBox b8 z).setBox b8 cs) := fun z cs => (LS.le.newBox (.refl _) hb8 z).setBox hb8.box cs
    refine LWp.gen (fun S2 => OM S2 b X s.1 ∧ NewO S S2 b X ∧ MapAt S2 mm al ∧ S2.box b8 = some (evR res[j])) ⟨m.le (hle8 _ _), nw.le2 (hle8 _ _), hma, box_set _ _ _⟩ ?_
    clear m nw hma hle8 hb8 n1 n2
    rintro S2 ⟨m, nw, hma, k8⟩
    refine LWp.cond rfl (fun h => ?_) (fun h => ?_)
    · have hs : runStep (opsS (res.map Prod.fst)) res[j].1 j s = s := if_pos h
      rw [hs] at e1
      repeat (first | refine LOps.nil ?_ | refine andThen_normal ?_ | refine andThen_exit ?_ | refine andThen_ret ?_ | refine inBlock_normal ?_ | refine inBlock_ret ?_ | refine inBlock_here ?_ | refine inBlock_out rfl ?_ | refine LWp.seq ?_ | refine LWp.region ?_ | refine LWp.block ?_ | refine LWp.exit ?_ | refine LWp.ret ?_ | refine LWp.skip ?_ | refine LOps.valA ?_ | refine LOps.outA ?_ | refine LOps.whenA ?_ | refine LOps.pickA ?_ | refine LOps.storeA ?_)
      exact ⟨res.length - (j + 1), by omega, _, j + 1, X, by omega, rfl, by rw [e1]; exact m, nw, hma, holds.over ⟨rfl, by rw [e1]; rfl, rfl, rfl, rfl, rfl, trivial⟩⟩
    have hs : runStep (opsS (res.map Prod.fst)) res[j].1 j s = (doM s.1 (opsS (res.map Prod.fst) res[j].1.id), if ((!decide (doA s.1 (opsS (res.map Prod.fst) res[j].1.id) = res[j].1.ans)) && decide (s.2 < 0)) = true then (j : Int) else s.2) := if_neg (by rw [show ((res[j].1.kind != 2) || idleS res[j].1.ans) = false from h]; decide)
    rw [hs] at e1
    have hop := hops res[j].1.id
    have hal' := hal res[j].1.id
    have hsop := hst.ops res[j].1.id
    generalize opsR res res[j].1.id = po at *
    rw [← hop] at e1
    clear hs hop
    repeat (first | refine LOps.nil ?_ | refine andThen_normal ?_ | refine andThen_exit ?_ | refine andThen_ret ?_ | refine inBlock_normal ?_ | refine inBlock_ret ?_ | refine inBlock_here ?_ | refine inBlock_out rfl ?_ | refine LWp.seq ?_ | refine LWp.region ?_ | refine LWp.block ?_ | refine LWp.exit ?_ | refine LWp.ret ?_ | refine LWp.skip ?_)
    refine LWp.drawF (fun _ c => c = b ∨ blockOf X = some c) [0, 1, 2, 3, 4, 6, 7, 5, 8, 9, 10, 11, 12] (by rw [hP]; rfl) rfl ?_
    repeat (first | refine LRl.val (fun S3 hS => LVal.load hD rfl rfl (hS.box _ _ k8 n8) rfl rfl) rfl rfl rfl ?_ | refine LRl.nil ?_ | refine LRl.valA ?_ | refine LRl.outA ?_ | refine LRl.whenA ?_ | refine LRl.pickA ?_)
    have hm3 : ∀ S3, S2.leX (fun c => c = b ∨ blockOf X = some c) S3 → MapAt S3 mm al := fun S3 hS => by
      obtain ⟨es, c, g1, g2⟩ := hma
      exact ⟨es, c, hS.obj _ _ g1, g2⟩
    refine LRl.val (r := .agg (opL po.1)) (fun S3 hS => LVal.stand (p := po) (LVal.lookup hD rfl rfl rfl rfl rfl rfl rfl rfl rfl (hm3 S3 hS) hal' (opV_raw po)) hsop) rfl rfl rfl ?_
    repeat (first | refine LRl.val (fun S3 hS => LVal.load hD rfl rfl (hS.box _ _ k8 n8) rfl rfl) rfl rfl rfl ?_ | refine LRl.nil ?_ | refine LRl.valA ?_ | refine LRl.outA ?_ | refine LRl.whenA ?_ | refine LRl.pickA ?_)
    refine LRl.act (LDo.callX (do_L hP s.1 (by omega) po.1 b X _ m) (by rw [hP]; exact Try.func41)) rfl rfl rfl rfl (by rintro _ S3 ⟨_, X', _, mv⟩; exact .inl ⟨fun c cs hc hn => (mv.box c cs hc (fun e => hn (.inl e)) (fun e => hn (.inr e))).1, mv.obj⟩) ?_
    rintro _ S3 ⟨rfl, X', m, mv⟩
    replace nw := nw.mv mv
    replace hma : MapAt S3 mm al := by
      obtain ⟨es, c, g1, g2⟩ := hma
      exact ⟨es, c, mv.obj _ _ g1, g2⟩
    clear mv k8 n8 hm3
    repeat (first | refine LRl.nil ?_ | refine LRl.valA ?_ | refine LRl.outA ?_ | refine LRl.whenA ?_ | refine LRl.pickA ?_)
    refine andThen_normal ?_
    repeat (first | refine LOps.nil ?_ | refine andThen_normal ?_ | refine andThen_exit ?_ | refine andThen_ret ?_ | refine inBlock_normal ?_ | refine inBlock_ret ?_ | refine inBlock_here ?_ | refine inBlock_out rfl ?_ | refine LWp.seq ?_ | refine LWp.region ?_ | refine LWp.block ?_ | refine LWp.exit ?_ | refine LWp.ret ?_ | refine LWp.skip ?_ | refine LOps.valA ?_ | refine LOps.outA ?_ | refine LOps.whenA ?_ | refine LOps.pickA ?_ | refine LOps.storeA ?_)
    refine LWp.cond rfl (fun h => ?_) (fun h => ?_)
    · have h2 : ((!decide (doA s.1 po.1 = res[j].1.ans)) && decide (s.2 < 0)) = true := by rw [← ans_eq]; exact h
      rw [if_pos h2] at e1
      repeat (first | refine LOps.nil ?_ | refine andThen_normal ?_ | refine andThen_exit ?_ | refine andThen_ret ?_ | refine inBlock_normal ?_ | refine inBlock_ret ?_ | refine inBlock_here ?_ | refine inBlock_out rfl ?_ | refine LWp.seq ?_ | refine LWp.region ?_ | refine LWp.block ?_ | refine LWp.exit ?_ | refine LWp.ret ?_ | refine LWp.skip ?_ | refine LOps.valA ?_ | refine LOps.outA ?_ | refine LOps.whenA ?_ | refine LOps.pickA ?_ | refine LOps.storeA ?_)
      exact ⟨res.length - (j + 1), by omega, _, j + 1, X', by omega, rfl, by rw [e1]; exact m, nw, hma, holds.over ⟨rfl, by rw [e1]; rfl, rfl, rfl, rfl, rfl, trivial⟩⟩
    · have h2 : ((!decide (doA s.1 po.1 = res[j].1.ans)) && decide (s.2 < 0)) = false := by rw [← ans_eq]; exact h
      rw [if_neg (by rw [h2]; decide)] at e1
      repeat (first | refine LOps.nil ?_ | refine andThen_normal ?_ | refine andThen_exit ?_ | refine andThen_ret ?_ | refine inBlock_normal ?_ | refine inBlock_ret ?_ | refine inBlock_here ?_ | refine inBlock_out rfl ?_ | refine LWp.seq ?_ | refine LWp.region ?_ | refine LWp.block ?_ | refine LWp.exit ?_ | refine LWp.ret ?_ | refine LWp.skip ?_ | refine LOps.valA ?_ | refine LOps.outA ?_ | refine LOps.whenA ?_ | refine LOps.pickA ?_ | refine LOps.storeA ?_)
      exact ⟨res.length - (j + 1), by omega, _, j + 1, X', by omega, rfl, by rw [e1]; exact m, nw, hma, holds.over ⟨rfl, by rw [e1]; rfl, rfl, rfl, rfl, rfl, trivial⟩⟩
  · have hge : j = res.length := by simp at h; omega
    subst hge
    repeat (first | refine LOps.nil ?_ | refine andThen_normal ?_ | refine andThen_exit ?_ | refine andThen_ret ?_ | refine inBlock_normal ?_ | refine inBlock_ret ?_ | refine inBlock_here ?_ | refine inBlock_out rfl ?_ | refine LWp.seq ?_ | refine LWp.region ?_ | refine LWp.block ?_ | refine LWp.exit ?_ | refine LWp.ret ?_ | refine LWp.skip ?_ | refine LOps.valA ?_ | refine LOps.outA ?_ | refine LOps.whenA ?_ | refine LOps.pickA ?_ | refine LOps.storeA ?_)
    exact ⟨_, LRes.two rfl, b, X, rfl, m, nw⟩

/-- The witness done on the pairs that there were. -/
def wit (l : List Pr) (evs : List Ev) : List Pr × Int := runT (opsS evs) evs (newP l) evs.length
theorem run_L {G : Ctx} (hP : G.P = Try.prog) (l : List Pr) (hl : l.length ≤ 1000) (evs : List Ev) (hr : evs.length ≤ 1000) (S : LS) :
    LCalls G 28 [.one (.sl .sh (l.map prL)), .one (.sl .sh (evs.map evL))] (fun r S' => ∃ b X, r = .tup [ptr b, .one (iv (wit l evs).2)] ∧ OM S' b X (wit l evs).1 ∧ NewO S S' b X) S :=
  .rawEv fun G' res e1 e2 h1 hst => by
    subst e2
    have := runR_L (e1.trans hP) l hl res h1 hst (by simpa using hr) S
    unfold wit
    rw [List.length_map]; exact this
theorem wit_length (l : List Pr) (evs : List Ev) : (wit l evs).1.length ≤ l.length + 8 * evs.length := by
  have h1 := runT_length (opsS evs) evs (newP l) evs.length
  have h2 := newP_length l
  unfold wit; omega

def checkL (l : List Pr) (evs : List Ev) : Int × Int :=
  if ((checkS (fun _ => noKn) evs 0).2 != 0) = true then checkS (fun _ => noKn) evs 0 else if decide ((wit l evs).2 ≥ 0) = true then ((wit l evs).2, 32) else (-1, 0)
set_option maxHeartbeats 4000000 in
theorem check_F {G : Ctx} (hP : G.P = Try.prog) (l : List Pr) (hl : l.length ≤ 1000) (evs : List Ev) (hr : evs.length ≤ 1000) :
    LFun G 11 [.one (.sl .sh (l.map prL)), .one (.sl .sh (evs.map evL))] (.tup [.one (iv (checkL l evs).1), .one (iv (checkL l evs).2)]) := LFun.of fun S => by
  have hD : TabOK G.P D := by rw [hP]; exact hD0
  refine LCalls.enter (fn := Try.f11) (by rw [hP]; exact Try.func11) rfl rfl ?_
  repeat (first | refine LOps.nil ?_ | refine andThen_normal ?_ | refine andThen_exit ?_ | refine andThen_ret ?_ | refine inBlock_normal ?_ | refine inBlock_ret ?_ | refine inBlock_here ?_ | refine inBlock_out rfl ?_ | refine LWp.seq ?_ | refine LWp.region ?_ | refine LWp.block ?_ | refine LWp.exit ?_ | refine LWp.ret ?_ | refine LWp.skip ?_ | refine LOps.val (LVal.call rfl rfl (by rw [hP]; exact Try.func21) rfl (by decide) (H.check_F hP evs (by omega))) rfl rfl rfl ?_ | refine LOps.whenC (LVal.call rfl rfl (by rw [hP]; exact Try.func21) rfl (by decide) (H.check_F hP evs (by omega))) ?_ | refine LOps.valA ?_ | refine LOps.outA ?_ | refine LOps.whenA ?_ | refine LOps.pickA ?_ | refine LOps.storeA ?_)
  refine LWp.cond rfl (fun h => ?_) (fun h => ?_)
  · have e : checkL l evs = checkS (fun _ => noKn) evs 0 := if_pos h
    rw [e]
    repeat (first | refine LOps.nil ?_ | refine andThen_normal ?_ | refine andThen_exit ?_ | refine andThen_ret ?_ | refine inBlock_normal ?_ | refine inBlock_ret ?_ | refine inBlock_here ?_ | refine inBlock_out rfl ?_ | refine LWp.seq ?_ | refine LWp.region ?_ | refine LWp.block ?_ | refine LWp.exit ?_ | refine LWp.ret ?_ | refine LWp.skip ?_ | refine LOps.valA ?_ | refine LOps.outA ?_ | refine LOps.whenA ?_ | refine LOps.pickA ?_ | refine LOps.storeA ?_)
    exact ⟨_, LRes.two rfl, rfl, .refl _⟩
  have e : checkL l evs = if decide ((wit l evs).2 ≥ 0) = true then ((wit l evs).2, 32) else (-1, 0) := if_neg (by rw [show ((checkS (fun _ => noKn) evs 0).2 != 0) = false from h]; decide)
  repeat (first | refine LOps.nil ?_ | refine andThen_normal ?_ | refine andThen_exit ?_ | refine andThen_ret ?_ | refine inBlock_normal ?_ | refine inBlock_ret ?_ | refine inBlock_here ?_ | refine inBlock_out rfl ?_ | refine LWp.seq ?_ | refine LWp.region ?_ | refine LWp.block ?_ | refine LWp.exit ?_ | refine LWp.ret ?_ | refine LWp.skip ?_ | refine LOps.valA ?_ | refine LOps.outA ?_ | refine LOps.whenA ?_ | refine LOps.pickA ?_ | refine LOps.storeA ?_)
  refine LOps.do (LDo.callX (run_L hP l hl evs hr S) (by rw [hP]; exact Try.func28)) rfl rfl rfl ?_
  rintro _ S1 ⟨b, X, rfl, m, nw⟩
  repeat (first | refine LOps.nil ?_ | refine andThen_normal ?_ | refine andThen_exit ?_ | refine andThen_ret ?_ | refine inBlock_normal ?_ | refine inBlock_ret ?_ | refine inBlock_here ?_ | refine inBlock_out rfl ?_ | refine LWp.seq ?_ | refine LWp.region ?_ | refine LWp.block ?_ | refine LWp.exit ?_ | refine LWp.ret ?_ | refine LWp.skip ?_ | refine LOps.valA ?_ | refine LOps.outA ?_ | refine LOps.whenA ?_ | refine LOps.pickA ?_ | refine LOps.storeA ?_)
  refine LWp.cond rfl (fun h => ?_) (fun h => ?_)
  · rw [e, if_pos h]
    repeat (first | refine LOps.nil ?_ | refine andThen_normal ?_ | refine andThen_exit ?_ | refine andThen_ret ?_ | refine inBlock_normal ?_ | refine inBlock_ret ?_ | refine inBlock_here ?_ | refine inBlock_out rfl ?_ | refine LWp.seq ?_ | refine LWp.region ?_ | refine LWp.block ?_ | refine LWp.exit ?_ | refine LWp.ret ?_ | refine LWp.skip ?_ | refine LOps.valA ?_ | refine LOps.outA ?_ | refine LOps.whenA ?_ | refine LOps.pickA ?_ | refine LOps.storeA ?_)
    exact ⟨_, LRes.two rfl, rfl, nw.le⟩
  · rw [e, if_neg (by rw [h]; decide)]
    repeat (first | refine LOps.nil ?_ | refine andThen_normal ?_ | refine andThen_exit ?_ | refine andThen_ret ?_ | refine inBlock_normal ?_ | refine inBlock_ret ?_ | refine inBlock_here ?_ | refine inBlock_out rfl ?_ | refine LWp.seq ?_ | refine LWp.region ?_ | refine LWp.block ?_ | refine LWp.exit ?_ | refine LWp.ret ?_ | refine LWp.skip ?_ | refine LOps.valA ?_ | refine LOps.outA ?_ | refine LOps.whenA ?_ | refine LOps.pickA ?_ | refine LOps.storeA ?_)
    exact ⟨_, LRes.two rfl, rfl, nw.le⟩
end Go.Proofs.Ytandbjhedkgldaa.LF
