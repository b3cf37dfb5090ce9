/- The walk of the law 'OmapPlays'. -/
import Derived.Test.YtndcdmmmfplbbaaLOj
import Derived.Test.YtndcdmmmfplbbaaLOk
set_option linter.unusedVariables false
set_option linter.unusedSimpArgs false
namespace Go.Proofs.Ytndcdmmmfplbbaa.LF
open Go.RowKit
set_option linter.unusedVariables false

theorem LDo.toVal {G : Ctx} {o : Oper} {T : Nat → TV} {S : LS} {r : TV} (h : LDo G o T S (fun r' S' => r' = r ∧ S' = S)) : LVal G o T S r :=
  fun K w a hi hr => upon_mono (fun _ _ ⟨r', v, S', K', h1, h2, h3, h4, e1, e2⟩ => ⟨v, K', h1, by rw [← e1]; exact h2, by rw [← e2]; exact h3, h4⟩) (fun _ _ _ h => h) (h K w a hi hr)
theorem SlAt.keepB {α : Type} {f : α → List LV} {z : Nat} {S S' : LS} {Y : LV} {m : List α} (h : ∀ b cs, S.box b = some cs → S'.box b = some cs) (k : SlAt f z S Y m) : SlAt f z S' Y m := by
  cases k with
  | nil => exact .nil
  | row r c _ rest hr => exact .row r c m rest ⟨h r _ hr.box, hr.room, hr.cap⟩
theorem OM.keepB {S S' : LS} {b : Nat} {X : LV} {l : List Pr} (h : ∀ b cs, S.box b = some cs → S'.box b = some cs) (m : OM S b X l) : OM S' b X l := ⟨h _ _ m.box, m.sl.keepB h, m.ne, m.srt⟩
theorem NewO.new {S0 S : LS} {b c : Nat} {X : LV} {l : List Pr} (h : NewO S0 S b X) (m : OM S b X l) (hf : S.fresh c) (cs : List LV) :
    ∃ S1, S0.le S1 ∧ S1.box c = some cs ∧ NewO S1 (S.newBox c cs) b X ∧ OM (S.newBox c cs) b X l := by
  have hle := LS.le.newBox (.refl S) hf cs
  have h0 : S0.box c = none := h.le.none hf
  have hS0 : S0.le (S0.setBox c cs) := ⟨fun x y hx => (box_set_ne S0 cs (fun e => by rw [e, h0] at hx; cases hx)).trans hx, fun _ _ h => h, fun _ _ h => h, Nat.le_refl _⟩
  obtain ⟨e1, e2⟩ := m.noBlock hf.box
  refine ⟨S0.setBox c cs, hS0, box_set _ _ _, ⟨⟨fun x y hx => ?_, fun x y hx => hle.row x y (h.le.row x y hx), fun x y hx => hle.obj x y (h.le.obj x y hx), Nat.le_trans h.le.top hle.top⟩, (box_set_ne S0 cs e1).trans h.nb, fun x hx => ?_⟩, m.le hle⟩
  · by_cases e : x = c
    · subst e
      rw [box_set] at hx; rw [← hx]; exact box_new _ _ _
    · rw [box_set_ne S0 cs e] at hx
      exact hle.box x y (h.le.box x y hx)
  · rw [box_set_ne S0 cs (fun e => e2 (by rw [← e]; exact hx))]; exact h.nx x hx
theorem NewO.set {S0 S : LS} {b c : Nat} {X : LV} {l : List Pr} {old : List LV} (h : NewO S0 S b X) (m : OM S b X l) (hc : S0.box c = some old) (cs : List LV) : NewO (S0.setBox c cs) (S.setBox c cs) b X ∧ OM (S.setBox c cs) b X l := by
  have e1 : b ≠ c := fun e => by rw [← e, h.nb] at hc; cases hc
  have e2 : blockOf X ≠ some c := fun e => by rw [h.nx c e] at hc; cases hc
  refine ⟨⟨⟨fun x y hx => ?_, h.le.row, h.le.obj, h.le.top⟩, (box_set_ne S0 cs e1).trans h.nb, fun x hx => ?_⟩, m.setOther e1 e2 cs⟩
  · by_cases e : x = c
    · subst e
      rw [box_set] at hx ⊢; exact hx
    · rw [box_set_ne S0 cs e] at hx
      rw [box_set_ne S cs e]; exact h.le.box x y hx
  · rw [box_set_ne S0 cs (fun e => e2 (by rw [← e]; exact hx))]; exact h.nx x hx

/-- Where what is in a map comes from. -/
theorem mem_newP {l : List Pr} {p : Pr} : p ∈ newP l → p ∈ l := by
  have : ∀ (l m : List Pr), Srt m → p ∈ l.foldl (fun m p => setP m p.key p.val) m → p ∈ m ∨ p ∈ l := by
    intro l
    induction l with
    | nil => exact fun m _ h => .inl h
    | cons q l ih =>
      intro m hm h
      rcases ih _ (hm.set _ _) h with h1 | h1
      · rcases (mem_setP hm _ _ _).1 h1 with h2 | h2
        · exact .inr (by rw [h2]; simp)
        · exact .inl h2.1
      · exact .inr (List.mem_cons_of_mem _ h1)
  intro h
  rcases this l [] .nil h with h1 | h1
  · cases h1
  · exact h1
theorem mem_stepsW {p : Pr} : ∀ (ws : List Wr) {l : List Pr}, Srt l → p ∈ ws.foldl stepW l → p ∈ l ∨ ∃ w ∈ ws, p = ⟨w.key, w.val⟩
  | [], l, _, h => .inl h
  | w :: ws, l, hs, h => by
    rcases mem_stepsW ws (stepW_srt hs w) h with h1 | ⟨x, h1, h2⟩
    · unfold stepW at h1
      split at h1
      · exact .inl ((mem_dropP hs _ _).1 h1).1
      · rcases (mem_setP hs _ _ _).1 h1 with h2 | h2
        · exact .inr ⟨w, by simp, h2⟩
        · exact .inl h2.1
    · exact .inr ⟨x, List.mem_cons_of_mem _ h1, h2⟩
theorem mem_doM {l : List Pr} {o : OpV} {p : Pr} (hs : Srt l) (h : p ∈ doM l o) : p ∈ l ∨ p = ⟨o.key, o.val⟩ ∨ ∃ w ∈ o.writes, p = ⟨w.key, w.val⟩ := by
  unfold doM at h
  split at h
  · split at h
    · rcases (mem_setP hs _ _ _).1 h with h2 | h2
      · exact .inr (.inl h2)
      · exact .inl h2.1
    · split at h
      · exact .inl ((mem_dropP hs _ _).1 h).1
      · split at h
        · split at h
          · rcases (mem_setP hs _ _ _).1 h with h2 | h2
            · exact .inr (.inl h2)
            · exact .inl h2.1
          · exact .inl h
        · split at h
          · rcases mem_stepsW _ hs h with h1 | h1
            · exact .inl h1
            · exact .inr (.inr h1)
          · exact .inl h
  · exact .inl h
def Small5 (l : List Pr) : Prop := ∀ p ∈ l, p.key.size ≤ 500 ∧ p.val.size ≤ 500
theorem Small5.newP {l : List Pr} (h : Small5 l) : Small5 (newP l) := fun p hp => h p (mem_newP hp)
theorem Small5.doM {l : List Pr} {o : OpV} (hs : Srt l) (h : Small5 l) (ho : FineO o) : Small5 (doM l o) := fun p hp => by
  rcases mem_doM hs hp with h1 | h1 | ⟨w, h1, h2⟩
  · exact h p h1
  · rw [h1]; exact ⟨ho.key, ho.val⟩
  · rw [h2]; exact ho.ws w h1
theorem Small5.alike {w l : List Pr} (h : Small5 l) (ha : Alike w l) : SmallW w := fun p hp => by
  have := h p ((ha.mem p).1 hp)
  omega
/-- What is there behind the first operations. -/
def runM (l : List Pr) (ops : List OpV) : List Pr := ops.foldl doM l
def runW (w : List Pr) (ops : List OpV) : List Pr := ops.foldl doW w
theorem runM_take {l : List Pr} {ops : List OpV} {j : Nat} (h : j < ops.length) : runM l (ops.take (j + 1)) = doM (runM l (ops.take j)) ops[j] := by
  unfold runM
  rw [List.take_succ_eq_append_getElem h, List.foldl_append]; rfl
theorem runW_take {l : List Pr} {ops : List OpV} {j : Nat} (h : j < ops.length) : runW l (ops.take (j + 1)) = doW (runW l (ops.take j)) ops[j] := by
  unfold runW
  rw [List.take_succ_eq_append_getElem h, List.foldl_append]; rfl
theorem runM_length : ∀ (ops : List OpV) (l : List Pr), (runM l ops).length ≤ l.length + 8 * ops.length
  | [], l => by simp [runM]
  | o :: ops, l => by
    have h1 := runM_length ops (doM l o)
    have h2 := doM_length l o
    unfold runM at h1 ⊢
    rw [List.foldl_cons, List.length_cons]; omega
theorem Alike.run : ∀ (ops : List OpV) {w l : List Pr}, Alike w l → Alike (runW w ops) (runM l ops)
  | [], _, _, h => h
  | o :: ops, _, _, h => Alike.run ops (h.doO o)
theorem Small5.run : ∀ (ops : List OpV) {l : List Pr}, Srt l → Small5 l → (∀ o ∈ ops, FineO o) → Small5 (runM l ops)
  | [], _, _, h, _ => h
  | o :: ops, _, hs, h, ho => Small5.run ops (doM_srt hs o) (h.doM hs (ho o (by simp))) fun x hx => ho x (List.mem_cons_of_mem _ hx)
theorem sameP_self (l : List Pr) : sameP l l = true := decide_eq_true rfl
theorem sameT_F {G G' : Ctx} (hP : G.P = Try.prog) (e : G'.P = G.P) (l : List Pr) (hl : l.length ≤ 1000000) : LFun G' 13 [.one (.sl .sh (l.map prL)), .one (.sl .sh (l.map prL))] (.one (bv true)) := by
  have := sameP_F (G := G') (e.trans hP) l l hl
  rwa [sameP_self] at this
theorem ans_ne (a : Ans) : (!eqAns a a) = false := by rw [eqAns_iff]; simp

set_option maxHeartbeats 16000000 in
set_option maxRecDepth 10000 in
theorem plays_L {G : Ctx} (hP : G.P = Try.prog) (l : List Pr) (ops : List OpV) (S : LS) : LCalls G 3 [.one (.sl .sh (l.map prL)), .one (.sl .sh (ops.map opL))] (fun r _ => r = .one (bv true)) S := by
  have hD : TabOK G.P D := by rw [hP]; exact hD0
  have ea : EqTy G.P D 35 := by rw [hP]; exact ⟨by kernel_rfl, by kernel_rfl⟩
  have hmo : (ops.map opL).length = ops.length := List.length_map ..
  have c1 := great_F hP l ops
  have cw := wakes_F hP
  refine LCalls.enter (fn := Try.f3) (by rw [hP]; exact Try.func3) rfl rfl ?_
  repeat (first | refine LOps.nil ?_ | refine andThen_normal ?_ | refine andThen_exit ?_ | refine andThen_ret ?_ | refine inBlock_normal ?_ | refine inBlock_ret ?_ | refine inBlock_here ?_ | refine inBlock_out rfl ?_ | refine LWp.seq ?_ | refine LWp.region ?_ | refine LWp.block ?_ | refine LWp.exit ?_ | refine LWp.ret ?_ | refine LWp.skip ?_ | refine LOps.val (LVal.call rfl rfl (by rw [hP]; exact Try.func9) rfl (by decide) (c1)) rfl rfl rfl ?_ | refine LOps.whenC (LVal.call rfl rfl (by rw [hP]; exact Try.func9) rfl (by decide) (c1)) ?_ | refine LOps.valA ?_ | refine LOps.outA ?_ | refine LOps.whenA ?_ | refine LOps.pickA ?_ | refine LOps.storeA ?_)
  refine LWp.cond rfl (fun h => ?_) (fun h => ?_)
  · repeat (first | refine LOps.nil ?_ | refine andThen_normal ?_ | refine andThen_exit ?_ | refine andThen_ret ?_ | refine inBlock_normal ?_ | refine inBlock_ret ?_ | refine inBlock_here ?_ | refine inBlock_out rfl ?_ | refine LWp.seq ?_ | refine LWp.region ?_ | refine LWp.block ?_ | refine LWp.exit ?_ | refine LWp.ret ?_ | refine LWp.skip ?_ | refine LOps.val (LVal.call rfl rfl (by rw [hP]; exact Try.func10) rfl (by decide) (cw)) rfl rfl rfl ?_ | refine LOps.whenC (LVal.call rfl rfl (by rw [hP]; exact Try.func10) rfl (by decide) (cw)) ?_ | refine LOps.valA ?_ | refine LOps.outA ?_ | refine LOps.whenA ?_ | refine LOps.pickA ?_ | refine LOps.storeA ?_)
    exact ⟨_, LRes.one rfl, rfl⟩
  have h : greatS l ops = false := h
  have hf := fine_of h
  have h5 : Small5 l := hf.ps
  have hnl := newP_length l
  have hfl := hf.nl
  have hfo := hf.no
  have cn := newW_F hP l (by omega)
  repeat (first | refine LOps.nil ?_ | refine andThen_normal ?_ | refine andThen_exit ?_ | refine andThen_ret ?_ | refine inBlock_normal ?_ | refine inBlock_ret ?_ | refine inBlock_here ?_ | refine inBlock_out rfl ?_ | refine LWp.seq ?_ | refine LWp.region ?_ | refine LWp.block ?_ | refine LWp.exit ?_ | refine LWp.ret ?_ | refine LWp.skip ?_ | refine LOps.valA ?_ | refine LOps.outA ?_ | refine LOps.whenA ?_ | refine LOps.pickA ?_ | refine LOps.storeA ?_)
  refine LOps.do (LDo.callX (new_L hP .sh l (by omega) S) (by rw [hP]; exact Try.func11)) rfl rfl rfl ?_
  rintro _ S1 ⟨b, X, rfl, m, h1, h2, h3⟩
  have nw : NewO S S1 b X := ⟨h1, h2, h3⟩
  have hle := LS.le.refl S
  clear h1 h2 h3
  repeat (first | refine LOps.nil ?_ | refine andThen_normal ?_ | refine andThen_exit ?_ | refine andThen_ret ?_ | refine inBlock_normal ?_ | refine inBlock_ret ?_ | refine inBlock_here ?_ | refine inBlock_out rfl ?_ | refine LWp.seq ?_ | refine LWp.region ?_ | refine LWp.block ?_ | refine LWp.exit ?_ | refine LWp.ret ?_ | refine LWp.skip ?_ | refine LOps.val (LVal.call rfl rfl (by rw [hP]; exact Try.func12) rfl (by decide) (cn)) rfl rfl rfl ?_ | refine LOps.whenC (LVal.call rfl rfl (by rw [hP]; exact Try.func12) rfl (by decide) (cn)) ?_ | refine LOps.valA ?_ | refine LOps.outA ?_ | refine LOps.whenA ?_ | refine LOps.pickA ?_ | refine LOps.storeA ?_)
  refine LOps.do (LDo.alloc hD rfl rfl rfl) rfl rfl rfl ?_
  rintro _ _ ⟨b6, hb6, rfl, rfl⟩
  refine LOps.storeA (b := b6) (off := 0) (cs := [.sl .nil []]) (l := mapW (newW l)) ?_
  obtain ⟨S1, h01, k6, nw1, m1⟩ := nw.put m hb6 ([.sl .nil []]) (mapW (newW l))
  refine LOps.gen (fun S' => NewO S1 S' b X ∧ OM S' b X _) ⟨nw1, m1⟩ ?_
  replace hle := hle.trans h01
  clear nw m nw1 m1 h01 hb6
  rintro S2 ⟨nw, m⟩
  have q6 := nw.le.box _ _ k6
  have ca := allW_F hP (newW l) (newP l) (Alike.new l) (by have := (Alike.new l).len; omega) (h5.newP.alike (Alike.new l))
  repeat (first | refine LOps.nil ?_ | refine andThen_normal ?_ | refine andThen_exit ?_ | refine andThen_ret ?_ | refine inBlock_normal ?_ | refine inBlock_ret ?_ | refine inBlock_here ?_ | refine inBlock_out rfl ?_ | refine LWp.seq ?_ | refine LWp.region ?_ | refine LWp.block ?_ | refine LWp.exit ?_ | refine LWp.ret ?_ | refine LWp.skip ?_ | refine LOps.valA ?_ | refine LOps.outA ?_ | refine LOps.whenA ?_ | refine LOps.pickA ?_ | refine LOps.storeA ?_)
  refine LWp.drawL [0, 1, 2, 3, 5, 6, 4, 7, 8, 9] (by rw [hP]; rfl) rfl ?_
  repeat (first | refine LRl.valW ?_ | refine LRl.val (fun _ hS => LVal.load hD rfl rfl (hS.box _ _ q6 id) rfl rfl) rfl rfl rfl ?_ | refine LRl.val (fun _ _ => LVal.call rfl rfl (by rw [hP]; exact Try.func15) rfl (by decide) ca) rfl rfl rfl ?_ | refine LRl.nil ?_ | refine LRl.valA ?_ | refine LRl.outA ?_ | refine LRl.whenA ?_ | refine LRl.pickA ?_)
  refine LRl.act (LDo.callX (all_L hP _ (by omega) b X _ m) (by rw [hP]; exact Try.func14)) rfl rfl rfl rfl (by rintro _ _ ⟨_, _, _, hle2, _⟩; exact .inl (.of_le hle2)) ?_
  rintro _ S3 ⟨Y, rfl, hY, hle3, _⟩
  replace m := m.le hle3
  replace nw := nw.le2 hle3
  refine LRl.val (fun S' hS => LVal.callAny (fun G' e => sameT_F hP e (newP l) (by omega)) rfl rfl (by rw [hP]; exact Try.func13) rfl (by decide) ⟨.one ((hY.keepB fun c cs hc => hS.box c cs hc id).view prL_len), .one (.sh .sh _), trivial⟩) rfl rfl rfl ?_
  repeat (first | refine LRl.valW ?_ | refine LRl.nil ?_ | refine LRl.valA ?_ | refine LRl.outA ?_ | refine LRl.whenA ?_ | refine LRl.pickA ?_)
  repeat (first | refine LWp.condF rfl ?_ | refine LOps.nil ?_ | refine andThen_normal ?_ | refine andThen_exit ?_ | refine andThen_ret ?_ | refine inBlock_normal ?_ | refine inBlock_ret ?_ | refine inBlock_here ?_ | refine inBlock_out rfl ?_ | refine LWp.seq ?_ | refine LWp.region ?_ | refine LWp.block ?_ | refine LWp.exit ?_ | refine LWp.ret ?_ | refine LWp.skip ?_ | refine LOps.valA ?_ | refine LOps.outA ?_ | refine LOps.whenA ?_ | refine LOps.pickA ?_ | refine LOps.storeA ?_)
  clear ca hY q6
  refine LWp.loop (fun k T S' => ∃ (T' : Nat → TV) (j : Nat) (X : LV) (S0 : LS), j ≤ ops.length ∧ k = ops.length - j ∧ OM S' b X (runM (newP l) (ops.take j)) ∧ NewO S0 S' b X ∧ S0.box b6 = some (mapW (runW (newW l) (ops.take j))) ∧ T = over T' [(0, .one (.sl .sh (l.map prL))), (1, .one (.sl .sh (ops.map opL))), (5, ptr b), (6, ptr b6), (7, .one (iv (j : Nat)))]) ops.length ?_ ?_
  · exact ⟨_, 0, X, S1, by omega, rfl, m, nw, k6, holds.over ⟨rfl, rfl, rfl, rfl, rfl, trivial⟩⟩
  clear m nw k6 hle hle3
  rintro k T S4 ⟨T', j, X, S0, hj, rfl, m, nw, k6, rfl⟩
  have hlen := runM_length (ops.take j) (newP l)
  rw [List.length_take] at hlen
  have ha := Alike.run (ops.take j) (Alike.new l)
  have hal := ha.len
  have h55 : Small5 (runM (newP l) (ops.take j)) := Small5.run _ (newP_srt l) h5.newP fun o ho => fineO_of (hf.os o (List.mem_of_mem_take ho))
  repeat (first | refine LOps.nil ?_ | refine andThen_normal ?_ | refine andThen_exit ?_ | refine andThen_ret ?_ | refine inBlock_normal ?_ | refine inBlock_ret ?_ | refine inBlock_here ?_ | refine inBlock_out rfl ?_ | refine LWp.seq ?_ | refine LWp.region ?_ | refine LWp.block ?_ | refine LWp.exit ?_ | refine LWp.ret ?_ | refine LWp.skip ?_ | refine LOps.valA ?_ | refine LOps.outA ?_ | refine LOps.whenA ?_ | refine LOps.pickA ?_ | refine LOps.storeA ?_)
  refine LWp.cond rfl (fun h => ?_) (fun h => ?_)
  · have hlt : j < ops.length := by simp at h; omega
    have hfo := fineO_of (hf.os _ (List.getElem_mem hlt))
    have hfk := hfo.key
    have hfn := hfo.n
    have cd := doW_F hP _ _ ha (by omega) (h55.alike ha) ops[j] (by omega) (by omega)
    have cr1 := refused_F hP ops[j]
    have cr2 := refusedW_F hP ops[j] (by omega)
    have hle := LS.le.refl S0
    have e1 := runM_take (l := newP l) hlt
    have e2 := runW_take (l := newW l) hlt
    generalize runM (newP l) (ops.take j) = lj at *
    generalize runW (newW l) (ops.take j) = wj at *
    repeat (first | refine LOps.nil ?_ | refine andThen_normal ?_ | refine andThen_exit ?_ | refine andThen_ret ?_ | refine inBlock_normal ?_ | refine inBlock_ret ?_ | refine inBlock_here ?_ | refine inBlock_out rfl ?_ | refine LWp.seq ?_ | refine LWp.region ?_ | refine LWp.block ?_ | refine LWp.exit ?_ | refine LWp.ret ?_ | refine LWp.skip ?_ | refine LOps.valA ?_ | refine LOps.outA ?_ | refine LOps.whenA ?_ | refine LOps.pickA ?_ | refine LOps.storeA ?_)
    refine LOps.do (LDo.alloc hD rfl rfl rfl) rfl rfl rfl ?_
    rintro _ _ ⟨b8, hb8, rfl, rfl⟩
    have n6_8 := fresh_ne hb8 (nw.le.box _ _ k6)
    obtain ⟨S1, h01, k8, nw1, m1⟩ := nw.new m hb8 (ansL noAns)
    replace k6 := h01.box _ _ k6
    replace hle := hle.trans h01
    refine LOps.gen (fun S' => NewO S1 S' b X ∧ OM S' b X lj) ⟨nw1, m1⟩ ?_
    clear nw m nw1 m1 h01 hb8
    rintro S2 ⟨nw, m⟩
    repeat (first | refine LOps.nil ?_ | refine andThen_normal ?_ | refine andThen_exit ?_ | refine andThen_ret ?_ | refine inBlock_normal ?_ | refine inBlock_ret ?_ | refine inBlock_here ?_ | refine inBlock_out rfl ?_ | refine LWp.seq ?_ | refine LWp.region ?_ | refine LWp.block ?_ | refine LWp.exit ?_ | refine LWp.ret ?_ | refine LWp.skip ?_ | refine LOps.valA ?_ | refine LOps.outA ?_ | refine LOps.whenA ?_ | refine LOps.pickA ?_ | refine LOps.storeA ?_)
    refine LOps.do (LDo.callF (do_L hP (lj) (by omega) (ops[j]) b X _ m) (by rw [hP]; exact Try.func16)) rfl rfl rfl ?_
    rintro _ S2 ⟨rfl, X, m, mv2⟩
    replace nw := nw.mv mv2
    clear mv2
    refine LOps.do (LDo.alloc hD rfl rfl rfl) rfl rfl rfl ?_
    rintro _ _ ⟨b9, hb9, rfl, rfl⟩
    refine LOps.storeA (b := b9) (off := 0) (cs := ansL noAns) (l := ansL (doA lj ops[j])) ?_
    have n6_9 := fresh_ne hb9 (nw.le.box _ _ k6)
    have n8_9 := fresh_ne hb9 (nw.le.box _ _ k8)
    obtain ⟨S1, h01, k9, nw1, m1⟩ := nw.put m hb9 (ansL noAns) (ansL (doA lj ops[j]))
    refine LOps.gen (fun S' => NewO S1 S' b X ∧ OM S' b X _) ⟨nw1, m1⟩ ?_
    replace k6 := h01.box _ _ k6
    replace k8 := h01.box _ _ k8
    replace hle := hle.trans h01
    clear nw m nw1 m1 h01 hb9
    rintro S2 ⟨nw, m⟩
    have q6 := nw.le.box _ _ k6
    have q8 := nw.le.box _ _ k8
    repeat (first | refine LOps.nil ?_ | refine andThen_normal ?_ | refine andThen_exit ?_ | refine andThen_ret ?_ | refine inBlock_normal ?_ | refine inBlock_ret ?_ | refine inBlock_here ?_ | refine inBlock_out rfl ?_ | refine LWp.seq ?_ | refine LWp.region ?_ | refine LWp.block ?_ | refine LWp.exit ?_ | refine LWp.ret ?_ | refine LWp.skip ?_ | refine LOps.valA ?_ | refine LOps.outA ?_ | refine LOps.whenA ?_ | refine LOps.pickA ?_ | refine LOps.storeA ?_)
    refine LWp.drawF (fun q _ => 6 ≤ q ∧ q ≤ 10) [0, 1, 2, 3, 4, 5, 6, 7, 8, 9, 10] (by rw [hP]; rfl) rfl ?_
    repeat (first | refine LRl.valH (LVal.load hD rfl rfl q6 rfl rfl) ?_ (fun _ hS => LVal.load hD rfl rfl (hS.box _ _ q6 (by first | exact id | (intro hx; rcases hx with hx | hx <;> omega) | (intro hx; have hx2 : _ = _ := hx; omega) | (intro hx; exact absurd hx.1 (by decide)))) rfl rfl) | refine LRl.valC (fun _ => (LVal.call rfl rfl (by rw [hP]; exact Try.func17) rfl (by decide) (cd))) ?_ | refine LRl.whenC (fun _ => (LVal.call rfl rfl (by rw [hP]; exact Try.func17) rfl (by decide) (cd))) ?_ | refine LRl.nil ?_ | refine LRl.valA ?_ | refine LRl.outA ?_ | refine LRl.whenA ?_ | refine LRl.pickA ?_)
    refine LRl.actA0 (LDo.store hD rfl rfl (q6) rfl rfl rfl rfl).toAct rfl rfl rfl (by
      rintro _ _ ⟨rfl, rfl⟩ q hq
      rcases (by omega : q = 0 ∨ q = 1 ∨ q = 2 ∨ q = 3 ∨ q = 4 ∨ q = 5 ∨ q = 6 ∨ q = 7 ∨ q = 8) with h | h | h | h | h | h | h | h | h <;> subst h <;> first | exact .inr rfl | exact .inl (LS.leX.setBox (by omega) _)) ?_
    rintro _ _ ⟨rfl, rfl⟩
    repeat (first | refine LRl.nil ?_ | refine LRl.valA ?_ | refine LRl.outA ?_ | refine LRl.whenA ?_ | refine LRl.pickA ?_)
    refine LRl.actA0 (LDo.store hD rfl rfl ((box_set_ne _ _ n6_8.symm).trans q8) rfl rfl rfl rfl).toAct rfl rfl rfl (by
      rintro _ _ ⟨rfl, rfl⟩ q hq
      rcases (by omega : q = 0 ∨ q = 1 ∨ q = 2 ∨ q = 3 ∨ q = 4 ∨ q = 5 ∨ q = 6 ∨ q = 7 ∨ q = 8 ∨ q = 9) with h | h | h | h | h | h | h | h | h | h <;> subst h <;> first | exact .inr rfl | exact .inl (LS.leX.setBox (by omega) _)) ?_
    rintro _ _ ⟨rfl, rfl⟩
    repeat (first | refine LRl.nil ?_ | refine LRl.valA ?_ | refine LRl.outA ?_ | refine LRl.whenA ?_ | refine LRl.pickA ?_)
    refine andThen_normal ?_
    obtain ⟨nw1, m1⟩ := nw.set m k6 (mapW (doW wj ops[j]))
    replace k8 := (box_set_ne S1 (mapW (doW wj ops[j])) n6_8.symm).trans k8
    replace k9 := (box_set_ne S1 (mapW (doW wj ops[j])) n6_9.symm).trans k9
    replace k6 := box_set S1 b6 (mapW (doW wj ops[j]))
    obtain ⟨nw2, m2⟩ := nw1.set m1 k8 (ansL (doA lj ops[j]))
    replace k9 := (box_set_ne (S1.setBox b6 (mapW (doW wj ops[j]))) (ansL (doA lj ops[j])) n8_9.symm).trans k9
    replace k6 := (box_set_ne (S1.setBox b6 (mapW (doW wj ops[j]))) (ansL (doA lj ops[j])) n6_8).trans k6
    replace k8 := box_set (S1.setBox b6 (mapW (doW wj ops[j]))) b8 (ansL (doA lj ops[j]))
    refine LWp.gen (fun S' => NewO ((S1.setBox b6 (mapW (doW wj ops[j]))).setBox b8 (ansL (doA lj ops[j]))) S' b X ∧ OM S' b X (doM lj ops[j])) ⟨nw2, m2⟩ ?_
    clear nw m nw1 m1 nw2 m2 q6 q8 cd
    generalize (S1.setBox b6 (mapW (doW wj ops[j]))).setBox b8 (ansL (doA lj ops[j])) = S1 at *
    rintro S5 ⟨nw, m⟩
    have q6 := nw.le.box _ _ k6
    have q8 := nw.le.box _ _ k8
    have q9 := nw.le.box _ _ k9
    have hlenEq : (((doM lj ops[j]).length : Int) != (((doW wj ops[j]).map prL).length : Int)) = false := by
      rw [bne_eq_false_iff_eq, List.length_map, (ha.doO ops[j]).len]
    repeat (first | refine LOps.nil ?_ | refine andThen_normal ?_ | refine andThen_exit ?_ | refine andThen_ret ?_ | refine inBlock_normal ?_ | refine inBlock_ret ?_ | refine inBlock_here ?_ | refine inBlock_out rfl ?_ | refine LWp.seq ?_ | refine LWp.region ?_ | refine LWp.block ?_ | refine LWp.exit ?_ | refine LWp.ret ?_ | refine LWp.skip ?_ | refine LOps.valA ?_ | refine LOps.outA ?_ | refine LOps.whenA ?_ | refine LOps.pickA ?_ | refine LOps.storeA ?_)
    refine LWp.drawL [0, 1, 2, 3, 4, 5, 6, 7, 8, 9, 10, 11, 12, 13, 14, 15, 16, 17, 18, 19, 20, 21, 22, 23] (by rw [hP]; rfl) rfl ?_
    repeat (first | refine LRl.val (fun _ hS => LVal.load hD rfl rfl (hS.box _ _ q9 id) rfl rfl) rfl rfl rfl ?_ | refine LRl.val (fun _ hS => LVal.load hD rfl rfl (hS.box _ _ q8 id) rfl rfl) rfl rfl rfl ?_ | refine LRl.val (fun _ hS => LVal.load hD rfl rfl (hS.box _ _ q6 id) rfl rfl) rfl rfl rfl ?_ | refine LRl.val (fun _ _ => LVal.to (LVal.neqAgg hD rfl rfl rfl rfl rfl ea rfl) (r' := .one (bv false)) (by exact congrArg (fun b => TV.one (bv b)) (ans_ne _))) rfl rfl rfl ?_ | refine LRl.val (fun _ _ => LVal.call rfl rfl (by rw [hP]; exact Try.func18) rfl (by decide) cr1) rfl rfl rfl ?_ | refine LRl.val (fun _ _ => LVal.call rfl rfl (by rw [hP]; exact Try.func19) rfl (by decide) cr2) rfl rfl rfl ?_ | refine LRl.val (fun S' hS => LDo.toVal (LDo.callX (len_L hP _ b X S' (m.keepB fun c cs hc => hS.box c cs hc id)) (by rw [hP]; exact Try.func20))) rfl rfl rfl ?_ | refine LRl.val (fun _ _ => LVal.to (LVal.binOp hD rfl rfl rfl rfl) (r' := .one (bv false)) (by exact congrArg (fun b => TV.one (bv b)) hlenEq)) rfl rfl rfl ?_ | refine LRl.valW ?_ | refine LRl.nil ?_ | refine LRl.valA ?_ | refine LRl.outA ?_ | refine LRl.whenA ?_ | refine LRl.pickA ?_)
    repeat (first | refine LWp.condF rfl ?_ | refine LOps.nil ?_ | refine andThen_normal ?_ | refine andThen_exit ?_ | refine andThen_ret ?_ | refine inBlock_normal ?_ | refine inBlock_ret ?_ | refine inBlock_here ?_ | refine inBlock_out rfl ?_ | refine LWp.seq ?_ | refine LWp.region ?_ | refine LWp.block ?_ | refine LWp.exit ?_ | refine LWp.ret ?_ | refine LWp.skip ?_ | refine LOps.valA ?_ | refine LOps.outA ?_ | refine LOps.whenA ?_ | refine LOps.pickA ?_ | refine LOps.storeA ?_)
    exact ⟨ops.length - (j + 1), by omega, _, j + 1, X, S1, by omega, rfl, by rw [e1]; exact m, nw, by rw [e2]; exact k6, holds.over ⟨rfl, rfl, rfl, rfl, rfl, trivial⟩⟩
  have hge : j = ops.length := by simp at h; omega
  subst hge
  rw [List.take_length] at m ha k6 h55 hlen
  have hal := ha.len
  have ca := allW_F hP _ _ ha (by omega) (h55.alike ha)
  have q6 := nw.le.box _ _ k6
  repeat (first | refine LOps.nil ?_ | refine andThen_normal ?_ | refine andThen_exit ?_ | refine andThen_ret ?_ | refine inBlock_normal ?_ | refine inBlock_ret ?_ | refine inBlock_here ?_ | refine inBlock_out rfl ?_ | refine LWp.seq ?_ | refine LWp.region ?_ | refine LWp.block ?_ | refine LWp.exit ?_ | refine LWp.ret ?_ | refine LWp.skip ?_ | refine LOps.valA ?_ | refine LOps.outA ?_ | refine LOps.whenA ?_ | refine LOps.pickA ?_ | refine LOps.storeA ?_)
  refine LWp.drawL [0, 2, 3, 1, 4, 5, 6, 7, 8] (by rw [hP]; rfl) rfl ?_
  repeat (first | refine LRl.val (fun _ hS => LVal.load hD rfl rfl (hS.box _ _ q6 id) rfl rfl) rfl rfl rfl ?_ | refine LRl.valC (fun _ => (LVal.call rfl rfl (by rw [hP]; exact Try.func15) rfl (by decide) (ca))) ?_ | refine LRl.whenC (fun _ => (LVal.call rfl rfl (by rw [hP]; exact Try.func15) rfl (by decide) (ca))) ?_ | refine LRl.nil ?_ | refine LRl.valA ?_ | refine LRl.outA ?_ | refine LRl.whenA ?_ | refine LRl.pickA ?_)
  refine LRl.act (LDo.callX (all_L hP _ (by omega) b X _ m) (by rw [hP]; exact Try.func14)) rfl rfl rfl rfl (by rintro _ _ ⟨_, _, _, hle2, _⟩; exact .inl (.of_le hle2)) ?_
  rintro _ S7 ⟨Y, rfl, hY, hle3, _⟩
  refine LRl.val (fun S' hS => LVal.callAny (fun G' e => sameT_F hP e (runM (newP l) ops) (by omega)) rfl rfl (by rw [hP]; exact Try.func13) rfl (by decide) ⟨.one ((hY.keepB fun c cs hc => hS.box c cs hc id).view prL_len), .one (.sh .sh _), trivial⟩) rfl rfl rfl ?_
  repeat (first | refine LRl.val (fun _ _ => LVal.call rfl rfl (by rw [hP]; exact Try.func10) rfl (by decide) cw) rfl rfl rfl ?_ | refine LRl.valW ?_ | refine LRl.nil ?_ | refine LRl.valA ?_ | refine LRl.outA ?_ | refine LRl.whenA ?_ | refine LRl.pickA ?_)
  repeat (first | refine LOps.nil ?_ | refine andThen_normal ?_ | refine andThen_exit ?_ | refine andThen_ret ?_ | refine inBlock_normal ?_ | refine inBlock_ret ?_ | refine inBlock_here ?_ | refine inBlock_out rfl ?_ | refine LWp.seq ?_ | refine LWp.region ?_ | refine LWp.block ?_ | refine LWp.exit ?_ | refine LWp.ret ?_ | refine LWp.skip ?_ | refine LOps.valA ?_ | refine LOps.outA ?_ | refine LOps.whenA ?_ | refine LOps.pickA ?_ | refine LOps.storeA ?_)
  exact ⟨_, LRes.one rfl, rfl⟩
end Go.Proofs.Ytndcdmmmfplbbaa.LF

namespace Go.Proofs.Ytndcdmmmfplbbaa
open Go.RowKit LF
theorem omapPlays_walk (W : World) (v0 : Value) (l0 : List LV) (y0 : Typed LF.D 22 l0) (g0 : RepT (G0 Try.prog W) W (allCells W) (argTV ti22 l0) v0) (v1 : Value) (l1 : List LV) (y1 : Typed LF.D 23 l1) (g1 : RepT (G0 Try.prog W) W (allCells W) (argTV ti23 l1) v1) :
    Calls Try.prog 3 #[v0, v1] W fun e W' => e = .returned (.bool true) ∧ Below W.heap.size W W' := by
  obtain ⟨l, rfl⟩ := typed_prs y0
  obtain ⟨ops, rfl⟩ := typed_ops y1
  exact law_calls (fun G S h => plays_L h l ops S) (.cons (vs := [v1]) g0 (.cons (vs := []) g1 .nil))
end Go.Proofs.Ytndcdmmmfplbbaa
