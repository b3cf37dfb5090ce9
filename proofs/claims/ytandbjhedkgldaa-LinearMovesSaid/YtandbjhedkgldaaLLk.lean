/- linear.Some: the walk. -/
import Derived.Test.YtandbjhedkgldaaLLj
namespace Go.Proofs.Ytandbjhedkgldaa.LF
open Go.RowKit H
set_option linter.unusedVariables false
attribute [local irreducible] andThen inBlock LWp LOps LCalls

structure AllAt (S0 S : LS) (b : Nat) (X : LV) (all : List One) : Prop where
  nw : NewO S0 S b X
  box : S.box b = some [X]
  p : PtAt oneL 13 S X all
  ne : blockOf X ≠ some b
theorem AllAt.le {S0 S S' : LS} {b : Nat} {X : LV} {all : List One} (h : AllAt S0 S b X all) (k : S.le S') : AllAt S0 S' b X all :=
  ⟨h.nw.le2 k, k.box _ _ h.box, h.p.keep fun b cs _ hb => k.box b cs hb, h.ne⟩
theorem AllAt.apart {S0 S : LS} {b c : Nat} {X : LV} {all : List One} (h : AllAt S0 S b X all) (hc : S.box c = none) : b ≠ c ∧ blockOf X ≠ some c := by
  refine ⟨fun e => ?_, fun e => ?_⟩
  · have := h.box; rw [e, hc] at this; cases this
  · obtain ⟨cs, hcs⟩ := h.p.block c e; rw [hc] at hcs; cases hcs

theorem spliceOne {A B p y y' q : List LV} {l : List One} {off i : Nat} {v : One} (ho : A.length = off) (hi : i < l.length) (e : oneL l[i] = p ++ y ++ q) (e' : oneL v = p ++ y' ++ q) (hl : y'.length = y.length) :
    splice (A ++ (cellsR oneL l ++ B)) (off + i * 13 + p.length) y' = A ++ (cellsR oneL (l.set i v) ++ B) := by
  have e1 := set_cells (rest := B) (x := v) oneL_len hi e e' hl (off := i * 13 + p.length) rfl
  rw [← e1]
  subst ho
  unfold splice
  rw [Nat.add_assoc, List.take_length_add_append, Nat.add_assoc, List.drop_length_add_append]
  simp only [List.append_assoc]

set_option maxHeartbeats 16000000 in
set_option maxRecDepth 10000 in
theorem some_L {G : Ctx} (hP : G.P = Try.prog) (l : List Pr) (hl : l.length ≤ 1000) (evs : List Ev) (hr : evs.length ≤ 1000) (S : LS) :
    LCalls G 19 [.one (.sl .sh (l.map prL)), .one (.sl .sh (evs.map evL))] (fun r S' => r = .one (bv (someS l evs)) ∧ S.le S') S := .sound fun hs => by
  have hD : TabOK G.P D := by rw [hP]; exact hD0
  have hwf := hs.wf
  refine LCalls.enter (fn := Try.f19) (by rw [hP]; exact Try.func19) rfl rfl ?_
  repeat (first | refine LOps.nil ?_ | refine andThen_normal ?_ | refine andThen_exit ?_ | refine andThen_ret ?_ | refine inBlock_normal ?_ | refine inBlock_ret ?_ | refine inBlock_here ?_ | refine inBlock_out rfl ?_ | refine LWp.seq ?_ | refine LWp.region ?_ | refine LWp.block ?_ | refine LWp.exit ?_ | refine LWp.ret ?_ | refine LWp.skip ?_ | refine LOps.val (LVal.call rfl rfl (by rw [hP]; exact Try.func21) rfl (by decide) (H.check_F hP evs (by omega))) rfl rfl rfl ?_ | refine LOps.whenC (LVal.call rfl rfl (by rw [hP]; exact Try.func21) rfl (by decide) (H.check_F hP evs (by omega))) ?_ | refine LOps.valA ?_ | refine LOps.outA ?_ | refine LOps.whenA ?_ | refine LOps.pickA ?_ | refine LOps.storeA ?_)
  refine LWp.cond rfl (fun h => ?_) (fun h => ?_)
  · have e : someS l evs = false := if_pos h
    rw [e]
    repeat (first | refine LOps.nil ?_ | refine andThen_normal ?_ | refine andThen_exit ?_ | refine andThen_ret ?_ | refine inBlock_normal ?_ | refine inBlock_ret ?_ | refine inBlock_here ?_ | refine inBlock_out rfl ?_ | refine LWp.seq ?_ | refine LWp.region ?_ | refine LWp.block ?_ | refine LWp.exit ?_ | refine LWp.ret ?_ | refine LWp.skip ?_ | refine LOps.valA ?_ | refine LOps.outA ?_ | refine LOps.whenA ?_ | refine LOps.pickA ?_ | refine LOps.storeA ?_)
    exact ⟨_, LRes.one rfl, rfl, .refl _⟩
  have h0 : (checkS (fun _ => noKn) evs 0).2 = 0 := by simpa using h
  have e : someS l evs = if 7 < (foldO evs).all.length then false else tryS (foldO evs).all ((foldO evs).all.length + 1) 0 l := if_neg (by rw [h0]; decide)
  rw [e]
  have R := right_of_check h0
  clear e h
  repeat (first | refine LOps.nil ?_ | refine andThen_normal ?_ | refine andThen_exit ?_ | refine andThen_ret ?_ | refine inBlock_normal ?_ | refine inBlock_ret ?_ | refine inBlock_here ?_ | refine inBlock_out rfl ?_ | refine LWp.seq ?_ | refine LWp.region ?_ | refine LWp.block ?_ | refine LWp.exit ?_ | refine LWp.ret ?_ | refine LWp.skip ?_ | refine LOps.valA ?_ | refine LOps.outA ?_ | refine LOps.whenA ?_ | refine LOps.pickA ?_ | refine LOps.storeA ?_)
  refine LOps.do (LDo.alloc hD rfl rfl rfl) rfl rfl rfl ?_
  rintro _ _ ⟨b7, hb7, rfl, rfl⟩
  repeat (first | refine LOps.nil ?_ | refine andThen_normal ?_ | refine andThen_exit ?_ | refine andThen_ret ?_ | refine inBlock_normal ?_ | refine inBlock_ret ?_ | refine inBlock_here ?_ | refine inBlock_out rfl ?_ | refine LWp.seq ?_ | refine LWp.region ?_ | refine LWp.block ?_ | refine LWp.exit ?_ | refine LWp.ret ?_ | refine LWp.skip ?_ | refine LOps.valA ?_ | refine LOps.outA ?_ | refine LOps.whenA ?_ | refine LOps.pickA ?_ | refine LOps.storeA ?_)
  refine LOps.do (LDo.makeMap rfl) rfl rfl rfl ?_
  rintro _ _ ⟨mm, hm, rfl, rfl⟩
  repeat (first | refine LOps.nil ?_ | refine andThen_normal ?_ | refine andThen_exit ?_ | refine andThen_ret ?_ | refine inBlock_normal ?_ | refine inBlock_ret ?_ | refine inBlock_here ?_ | refine inBlock_out rfl ?_ | refine LWp.seq ?_ | refine LWp.region ?_ | refine LWp.block ?_ | refine LWp.exit ?_ | refine LWp.ret ?_ | refine LWp.skip ?_ | refine LOps.valA ?_ | refine LOps.outA ?_ | refine LOps.whenA ?_ | refine LOps.pickA ?_ | refine LOps.storeA ?_)
  have hmt : S.top ≤ mm := Nat.le_trans (LS.le.newBox (.refl S) hb7 _).top hm.top
  refine LWp.loop (fun k T S' => ∃ (T' : Nat → TV) (j : Nat) (X : LV) (al : List (Int × Value)), j ≤ evs.length ∧ k = evs.length - j ∧ AllAt S S' b7 X (foldO (evs.take j)).all ∧ MapAt S' mm al ∧ NumIs al (foldO (evs.take j)).ids ∧ Bits (foldO (evs.take j)) ∧ (foldO (evs.take j)).all.length ≤ 7 ∧
    T = over T' [(0, .one (.sl .sh (l.map prL))), (7, ptr b7), (8, .one (.v (.map (some mm)))), (9, .one (.v (.int .u64 ((foldO (evs.take j)).done : Nat)))), (22, .one (.sl .sh (evs.map evL))), (23, .one (iv (evs.length : Nat))), (24, .one (iv j))]) evs.length ?_ ?_
  · refine ⟨_, 0, .sl .nil [], [], by omega, by omega, ⟨⟨LS.only.le (LS.only.trans (LS.only.newBox hb7 _ _) (.newObj hm _ _)), hb7.box, fun c hc => by cases hc⟩, box_new _ _ _, .nil, by simp [blockOf]⟩, MapAt.new _ mm, (fun id hid => by cases hid), ⟨show 0 < 128 by decide, fun x hx => by cases hx⟩, show 0 ≤ 7 by decide, holds.over ⟨rfl, rfl, rfl, rfl, rfl, by show TV.one (iv ((evs.map evL).length : Int)) = _; rw [List.length_map], rfl, trivial⟩⟩
  have s7 := hb7.box
  clear hb7 hm
  rintro k T S' ⟨T', j, X, al, hj, rfl, aa, hma, hnum, hbits, h7, rfl⟩
  repeat (first | refine LOps.nil ?_ | refine andThen_normal ?_ | refine andThen_exit ?_ | refine andThen_ret ?_ | refine inBlock_normal ?_ | refine inBlock_ret ?_ | refine inBlock_here ?_ | refine inBlock_out rfl ?_ | refine LWp.seq ?_ | refine LWp.region ?_ | refine LWp.block ?_ | refine LWp.exit ?_ | refine LWp.ret ?_ | refine LWp.skip ?_ | refine LOps.valA ?_ | refine LOps.outA ?_ | refine LOps.whenA ?_ | refine LOps.pickA ?_ | refine LOps.storeA ?_)
  refine LWp.cond rfl (fun h => ?_) (fun h => ?_)
  · have hlt : j < evs.length := by simpa using h
    have e1 := foldO_take hlt
    have hil := foldO_len (evs.take j)
    have hbn := begin_new R hlt
    have hei := end_in R hlt
    have hbs := hbits.step h7 hil (e := evs[j]) hei
    rw [← e1] at hbs
    have hml : (foldO (evs.take j)).all.length ≤ (foldO (evs.take (j + 1))).all.length := by
      have := foldO_mono (l := evs.take (j + 1)) (j := j)
      rwa [List.take_take, Nat.min_eq_left (by omega)] at this
    have hmo := foldO_mono (l := evs) (j := j + 1)
    generalize foldO (evs.take j) = s at *
    obtain ⟨s2, hs2⟩ : ∃ s2, s2 = foldO (evs.take (j + 1)) := ⟨_, rfl⟩
    rw [← hs2] at e1 hbs hml hmo
    repeat (first | refine LOps.nil ?_ | refine andThen_normal ?_ | refine andThen_exit ?_ | refine andThen_ret ?_ | refine inBlock_normal ?_ | refine inBlock_ret ?_ | refine inBlock_here ?_ | refine inBlock_out rfl ?_ | refine LWp.seq ?_ | refine LWp.region ?_ | refine LWp.block ?_ | refine LWp.exit ?_ | refine LWp.ret ?_ | refine LWp.skip ?_ | refine LOps.valA ?_ | refine LOps.outA ?_ | refine LOps.whenA ?_ | refine LOps.pickA ?_ | refine LOps.storeA ?_)
    refine LOps.do (LDo.alloc hD rfl rfl rfl) rfl rfl rfl ?_
    rintro _ _ ⟨b11, hb11, rfl, rfl⟩
    obtain ⟨n1, n2⟩ := aa.apart hb11.box
    have hle8 : ∀ z cs, S'.le ((S'.newBox b11 z).setBox b11 cs) := fun z cs => (LS.le.newBox (.refl _) hb11 z).setBox hb11.box cs
    repeat (first | refine LOps.nil ?_ | refine andThen_normal ?_ | refine andThen_exit ?_ | refine andThen_ret ?_ | refine inBlock_normal ?_ | refine inBlock_ret ?_ | refine inBlock_here ?_ | refine inBlock_out rfl ?_ | refine LWp.seq ?_ | refine LWp.region ?_ | refine LWp.block ?_ | refine LWp.exit ?_ | refine LWp.ret ?_ | refine LWp.skip ?_ | refine LOps.valA ?_ | refine LOps.outA ?_ | refine LOps.whenA ?_ | refine LOps.pickA ?_ | refine LOps.storeA ?_)
    refine LWp.gen (fun S2 => AllAt S S2 b7 X s.all ∧ MapAt S2 mm al ∧ S2.box b11 = some (evL evs[j])) ⟨aa.le (hle8 _ _), hma, box_set _ _ _⟩ ?_
    clear aa hma hle8 hb11
    rintro S2 ⟨aa, hma, k11⟩
    generalize hev : evs[j] = ev at *
    have nx := aa.box
    have nnx := aa.nw
    refine LWp.cond rfl (fun h => ?_) (fun h => ?_)
    · have hk : ev.kind = 1 := by simpa using h
      rw [stepO, if_pos hk] at e1
      repeat (first | refine LOps.valH (LVal.load hD rfl rfl nx rfl rfl) ?_ | refine LOps.valH (LVal.lenPt hD rfl rfl aa.p rfl rfl) ?_ | refine LOps.nil ?_ | refine andThen_normal ?_ | refine andThen_exit ?_ | refine andThen_ret ?_ | refine inBlock_normal ?_ | refine inBlock_ret ?_ | refine inBlock_here ?_ | refine inBlock_out rfl ?_ | refine LWp.seq ?_ | refine LWp.region ?_ | refine LWp.block ?_ | refine LWp.exit ?_ | refine LWp.ret ?_ | refine LWp.skip ?_ | refine LOps.valA ?_ | refine LOps.outA ?_ | refine LOps.whenA ?_ | refine LOps.pickA ?_ | refine LOps.storeA ?_)
      refine LOps.do0 (LDo.mapUpdate (v := .int .i64 (s.all.length : Nat)) hD rfl rfl rfl rfl rfl rfl rfl rfl rfl (show MapAt _ mm al from hma)) rfl rfl ?_
      rintro _ S3 ⟨_, o, rfl, m3⟩
      have aa3 : AllAt S (S2.setObj mm o) b7 X s.all := ⟨⟨aa.nw.le.newOnly (LS.only.setObj (F := (· = mm)) rfl o) (fun x hx => by rw [hx]; exact hmt) hwf, aa.nw.nb, aa.nw.nx⟩, aa.box, aa.p.keep fun b cs _ hb => hb, aa.ne⟩
      have hnum' := hnum.put (hbn hk)
      rw [hil] at hnum'
      refine LOps.gen (fun S3 => AllAt S S3 b7 X s.all ∧ MapAt S3 mm (alPut al ev.id (.int .i64 (s.all.length : Nat))) ∧ S3.box b11 = some (evL ev)) ⟨aa3, m3, k11⟩ ?_
      clear aa aa3 nx nnx hma m3 k11 hnum
      rintro S3 ⟨aa, hma, k11⟩
      have nx := aa.box
      repeat (first | refine LOps.valH (LVal.load hD rfl rfl nx rfl rfl) ?_ | refine LOps.val (r := .agg (oneL ⟨ev.op, noAns, false, s.done⟩)) (LVal.shTo (LVal.build hD rfl rfl rfl rfl rfl rfl rfl) rfl) rfl rfl rfl ?_ | refine LOps.val (r := .one (.sl .sh [oneL ⟨ev.op, noAns, false, s.done⟩])) (LVal.to (LVal.buildSlice hD rfl rfl rfl rfl rfl rfl rfl rfl rfl rfl) rfl) rfl rfl rfl ?_ | refine LOps.nil ?_ | refine andThen_normal ?_ | refine andThen_exit ?_ | refine andThen_ret ?_ | refine inBlock_normal ?_ | refine inBlock_ret ?_ | refine inBlock_here ?_ | refine inBlock_out rfl ?_ | refine LWp.seq ?_ | refine LWp.region ?_ | refine LWp.block ?_ | refine LWp.exit ?_ | refine LWp.ret ?_ | refine LWp.skip ?_ | refine LOps.valA ?_ | refine LOps.outA ?_ | refine LOps.whenA ?_ | refine LOps.pickA ?_ | refine LOps.storeA ?_)
      refine LOps.do (LDo.pushPt (v := (⟨ev.op, noAns, false, s.done⟩ : One)) hD oneL_len rfl rfl rfl rfl rfl rfl rfl rfl rfl rfl rfl aa.p (by omega)) rfl rfl rfl ?_
      rintro _ S4 ⟨X', rfl, p4, mv4⟩
      obtain ⟨q7, q8⟩ := mv4.box b7 _ aa.box aa.ne
      refine LOps.storeA (b := b7) (off := 0) (cs := [X]) (l := [X']) ?_
      have aa4 : AllAt S (S4.setBox b7 [X']) b7 X' s2.all := by
        rw [e1]
        exact ⟨aa.nw.mv (MvO.store mv4 [X']), box_set _ _ _, p4.keep fun b cs hb hc => (box_set_ne S4 [X'] (fun e => q8 (by rw [hb, e]))).trans hc, q8⟩
      refine LOps.gen (fun S5 => AllAt S S5 b7 X' s2.all ∧ MapAt S5 mm (alPut al ev.id (.int .i64 (s.all.length : Nat)))) ⟨aa4, by obtain ⟨es, c, g1, g2⟩ := hma; exact ⟨es, c, mv4.obj _ _ g1, g2⟩⟩ ?_
      clear aa aa4 hma k11 p4 mv4 q7 q8 nx
      rintro S5 ⟨aa, hma⟩
      replace hnum : NumIs (alPut al ev.id (.int .i64 (s.all.length : Nat))) s2.ids := by rw [e1]; exact hnum'
      have hdn : s2.done = s.done := by rw [e1]
      rw [← hdn]
      generalize alPut al ev.id (.int .i64 (s.all.length : Nat)) = al' at *
      have h2 := hml
      repeat (first | refine LOps.valH (LVal.load hD rfl rfl aa.box rfl rfl) ?_ | refine LOps.valH (LVal.lenPt hD rfl rfl aa.p rfl rfl) ?_ | refine LOps.nil ?_ | refine andThen_normal ?_ | refine andThen_exit ?_ | refine andThen_ret ?_ | refine inBlock_normal ?_ | refine inBlock_ret ?_ | refine inBlock_here ?_ | refine inBlock_out rfl ?_ | refine LWp.seq ?_ | refine LWp.region ?_ | refine LWp.block ?_ | refine LWp.exit ?_ | refine LWp.ret ?_ | refine LWp.skip ?_ | refine LOps.valA ?_ | refine LOps.outA ?_ | refine LOps.whenA ?_ | refine LOps.pickA ?_ | refine LOps.storeA ?_)
      refine LWp.cond rfl (fun h => ?_) (fun h => ?_)
      · have h8 : 7 < s2.all.length := by simp at h; omega
        rw [if_pos (by omega)]
        repeat (first | refine LOps.nil ?_ | refine andThen_normal ?_ | refine andThen_exit ?_ | refine andThen_ret ?_ | refine inBlock_normal ?_ | refine inBlock_ret ?_ | refine inBlock_here ?_ | refine inBlock_out rfl ?_ | refine LWp.seq ?_ | refine LWp.region ?_ | refine LWp.block ?_ | refine LWp.exit ?_ | refine LWp.ret ?_ | refine LWp.skip ?_ | refine LOps.valA ?_ | refine LOps.outA ?_ | refine LOps.whenA ?_ | refine LOps.pickA ?_ | refine LOps.storeA ?_)
        exact ⟨_, LRes.one rfl, rfl, aa.nw.le⟩
      · have h8 : s2.all.length ≤ 7 := by simp at h; omega
        repeat (first | refine LOps.nil ?_ | refine andThen_normal ?_ | refine andThen_exit ?_ | refine andThen_ret ?_ | refine inBlock_normal ?_ | refine inBlock_ret ?_ | refine inBlock_here ?_ | refine inBlock_out rfl ?_ | refine LWp.seq ?_ | refine LWp.region ?_ | refine LWp.block ?_ | refine LWp.exit ?_ | refine LWp.ret ?_ | refine LWp.skip ?_ | refine LOps.valA ?_ | refine LOps.outA ?_ | refine LOps.whenA ?_ | refine LOps.pickA ?_ | refine LOps.storeA ?_)
        exact ⟨evs.length - (j + 1), by omega, _, j + 1, X', al', by omega, rfl, by rw [← hs2]; exact aa, hma, by rw [← hs2]; exact hnum, by rw [← hs2]; exact hbs, by rw [← hs2]; exact h8, holds.over ⟨rfl, rfl, rfl, by rw [← hs2]; rfl, rfl, rfl, rfl, trivial⟩⟩
    have hk1 : ¬ ev.kind = 1 := by simpa using h
    rw [stepO, if_neg hk1] at e1
    repeat (first | refine LOps.nil ?_ | refine andThen_normal ?_ | refine andThen_exit ?_ | refine andThen_ret ?_ | refine inBlock_normal ?_ | refine inBlock_ret ?_ | refine inBlock_here ?_ | refine inBlock_out rfl ?_ | refine LWp.seq ?_ | refine LWp.region ?_ | refine LWp.block ?_ | refine LWp.exit ?_ | refine LWp.ret ?_ | refine LWp.skip ?_ | refine LOps.valA ?_ | refine LOps.outA ?_ | refine LOps.whenA ?_ | refine LOps.pickA ?_ | refine LOps.storeA ?_)
    refine LWp.cond rfl (fun h => ?_) (fun h => ?_)
    · have hk : ev.kind = 3 := by simpa using h
      rw [if_pos hk] at e1
      have hin := hei hk
      have hget := hnum ev.id hin
      have hlti := List.idxOf_lt_length_of_mem hin
      generalize s.ids.idxOf ev.id = i at *
      have hia : i < s.all.length := by omega
      obtain ⟨r, off, c, A, B, rfl, hb, ho, hlc, hcz⟩ := aa.p.row_of (by omega)
      have hal : s.all.length < 8 := by omega
      have hd128 := hbits.done
      have n711 : b11 ≠ r := fun e => n2 (by rw [e]; rfl)
      have hcl : (cellsR oneL s.all ++ B).length = s.all.length * 13 + B.length := by rw [List.length_append, cellsR_length oneL_len]
      repeat (first | refine LOps.valH (LVal.load hD rfl rfl nx rfl rfl) ?_ | refine LOps.val (r := .one (iv (i : Nat))) (LVal.lookup hD rfl rfl rfl rfl rfl rfl rfl rfl rfl hma (v := .int .i64 (i : Nat)) (by rw [hget]; rfl) rfl) rfl rfl rfl ?_ | refine LOps.valH (LVal.indexR hD rfl rfl rfl rfl rfl rfl (by omega) (by omega)) ?_ | refine LOps.nil ?_ | refine andThen_normal ?_ | refine andThen_exit ?_ | refine andThen_ret ?_ | refine inBlock_normal ?_ | refine inBlock_ret ?_ | refine inBlock_here ?_ | refine inBlock_out rfl ?_ | refine LWp.seq ?_ | refine LWp.region ?_ | refine LWp.block ?_ | refine LWp.exit ?_ | refine LWp.ret ?_ | refine LWp.skip ?_ | refine LOps.valA ?_ | refine LOps.outA ?_ | refine LOps.whenA ?_ | refine LOps.pickA ?_ | refine LOps.storeA ?_)
      repeat (first | refine LOps.nil ?_ | refine andThen_normal ?_ | refine andThen_exit ?_ | refine andThen_ret ?_ | refine inBlock_normal ?_ | refine inBlock_ret ?_ | refine inBlock_here ?_ | refine inBlock_out rfl ?_ | refine LWp.seq ?_ | refine LWp.region ?_ | refine LWp.block ?_ | refine LWp.exit ?_ | refine LWp.ret ?_ | refine LWp.skip ?_ | refine LOps.valA ?_ | refine LOps.outA ?_ | refine LOps.whenA ?_ | refine LOps.pickA ?_ | refine LOps.storeA ?_)
      have hble : ∀ (cs : List LV) (k m : Nat), cs.length = s.all.length * 13 + B.length → k + m ≤ 13 → Nat.ble (off + i * 13 + k + m) (A ++ cs).length = true := fun cs k m h1 h2 => by
        rw [Nat.ble_eq, List.length_append, h1, ho]; omega
      generalize hxi : s.all[i] = x at *
      have hgd : s.all.getD i noOne = x := by rw [List.getD_eq_getElem?_getD, List.getElem?_eq_getElem hia, hxi]; rfl
      rw [hgd] at e1
      have es1 : splice (A ++ (cellsR oneL s.all ++ B)) (off + i * 13 + 7) (ansL ev.ans) = A ++ (cellsR oneL (s.all.set i ⟨x.op, ev.ans, x.ended, x.ahead⟩) ++ B) :=
        spliceOne (p := [uv x.op.kind, sv x.op.key, sv x.op.val, sv x.op.old, bv x.op.had, bv x.op.after, .sl .sh (x.op.writes.map wrL)]) (y := ansL x.a) (q := [bv x.ended, .v (.int .u64 (x.ahead : Nat))]) ho hia (by rw [hxi]; rfl) rfl rfl
      have hia2 : i < (s.all.set i ⟨x.op, ev.ans, x.ended, x.ahead⟩).length := by rw [List.length_set]; exact hia
      have es2 : splice (A ++ (cellsR oneL (s.all.set i ⟨x.op, ev.ans, x.ended, x.ahead⟩) ++ B)) (off + i * 13 + 11) [bv true] = A ++ (cellsR oneL (s.all.set i (endO x ev.ans)) ++ B) := by
        have := spliceOne (A := A) (B := B) (v := endO x ev.ans) (y' := [bv true]) (p := [uv x.op.kind, sv x.op.key, sv x.op.val, sv x.op.old, bv x.op.had, bv x.op.after, .sl .sh (x.op.writes.map wrL)] ++ ansL ev.ans) (y := [bv x.ended]) (q := [.v (.int .u64 (x.ahead : Nat))]) ho hia2 (by rw [List.getElem_set_self]; rfl) rfl rfl
        rw [List.set_set] at this
        exact this
      refine LOps.do0 (LDo.store hD rfl rfl hb rfl rfl rfl (hble _ 7 4 hcl (by decide))) rfl rfl ?_
      rintro _ S3 ⟨rfl, hS3⟩
      replace hS3 := hS3.trans (congrArg (LS.setBox _ r) es1)
      subst hS3
      have hcl2 : (cellsR oneL (s.all.set i ⟨x.op, ev.ans, x.ended, x.ahead⟩) ++ B).length = s.all.length * 13 + B.length := by rw [List.length_append, cellsR_length oneL_len, List.length_set]
      repeat (first | refine LOps.nil ?_ | refine andThen_normal ?_ | refine andThen_exit ?_ | refine andThen_ret ?_ | refine inBlock_normal ?_ | refine inBlock_ret ?_ | refine inBlock_here ?_ | refine inBlock_out rfl ?_ | refine LWp.seq ?_ | refine LWp.region ?_ | refine LWp.block ?_ | refine LWp.exit ?_ | refine LWp.ret ?_ | refine LWp.skip ?_ | refine LOps.valA ?_ | refine LOps.outA ?_ | refine LOps.whenA ?_ | refine LOps.pickA ?_ | refine LOps.storeA ?_)
      refine LOps.do0 (LDo.store hD rfl rfl (box_set _ _ _) rfl rfl rfl (hble _ 11 1 hcl2 (by decide))) rfl rfl ?_
      rintro _ S3 ⟨rfl, hS3⟩
      replace hS3 := hS3.trans (congrArg (LS.setBox _ r) es2)
      subst hS3
      have hlen2 : (s.all.set i (endO x ev.ans)).length = s.all.length := List.length_set ..
      have aa2 : ∀ cs1, AllAt S ((S2.setBox r cs1).setBox r (A ++ (cellsR oneL (s.all.set i (endO x ev.ans)) ++ B))) b7 (rsl r off s.all.length c) s2.all := fun cs1 => by
        rw [e1]
        have n7r : b7 ≠ r := fun e => aa.ne (by rw [e]; rfl)
        refine ⟨⟨(aa.nw.le.setBox (aa.nw.nx r rfl) _).setBox (aa.nw.nx r rfl) _, aa.nw.nb, aa.nw.nx⟩, (box_set_ne _ _ n7r).trans ((box_set_ne _ _ n7r).trans aa.box), ?_, aa.ne⟩
        have := PtAt.row (f := oneL) (z := 13) (S := (S2.setBox r cs1).setBox r (A ++ (cellsR oneL (s.all.set i (endO x ev.ans)) ++ B))) r off c (s.all.set i (endO x ev.ans)) A B (box_set _ _ _) ho (by rw [hlen2]; exact hlc) (by rw [List.length_append, cellsR_length oneL_len, hlen2, ← cellsR_length oneL_len, ← List.length_append]; exact hcz)
        rw [hlen2] at this
        exact this
      refine LOps.gen (fun S5 => AllAt S S5 b7 (rsl r off s.all.length c) s2.all ∧ MapAt S5 mm al ∧ S5.box b11 = some (evL ev)) ⟨aa2 _, hma, (box_set_ne _ _ n711).trans ((box_set_ne _ _ n711).trans k11)⟩ ?_
      clear aa aa2 hma k11 hb nx nnx
      rintro S5 ⟨aa, hma, k11⟩
      have eo := bit_or s.done hd128 i (by omega)
      have hids : s2.ids = s.ids := by rw [e1]
      rw [← hids] at hnum
      have hdn : s2.done = s.done ||| 2 ^ i := by rw [e1]
      repeat (first | refine LOps.val (r := .one (iv (i : Nat))) (LVal.lookup hD rfl rfl rfl rfl rfl rfl rfl rfl rfl hma (v := .int .i64 (i : Nat)) (by rw [hget]; rfl) rfl) rfl rfl rfl ?_ | refine LOps.valH (LVal.shlU (m := 1) (c := i) rfl rfl rfl rfl (by omega)) ?_ | refine LOps.val (r := .one (.v (.int .u64 ((s.done ||| 2 ^ i : Nat) : Int)))) (LVal.to (LVal.binOp hD rfl rfl rfl rfl) (by exact congrArg (fun z => TV.one (.v (.int .u64 z))) eo)) rfl rfl rfl ?_ | refine LOps.valH (LVal.load hD rfl rfl aa.box rfl rfl) ?_ | refine LOps.valH (LVal.lenPt hD rfl rfl aa.p rfl rfl) ?_ | refine LOps.nil ?_ | refine andThen_normal ?_ | refine andThen_exit ?_ | refine andThen_ret ?_ | refine inBlock_normal ?_ | refine inBlock_ret ?_ | refine inBlock_here ?_ | refine inBlock_out rfl ?_ | refine LWp.seq ?_ | refine LWp.region ?_ | refine LWp.block ?_ | refine LWp.exit ?_ | refine LWp.ret ?_ | refine LWp.skip ?_ | refine LOps.valA ?_ | refine LOps.outA ?_ | refine LOps.whenA ?_ | refine LOps.pickA ?_ | refine LOps.storeA ?_)
      rw [← hdn]
      have h2 := hml
      repeat (first | refine LOps.valH (LVal.load hD rfl rfl aa.box rfl rfl) ?_ | refine LOps.valH (LVal.lenPt hD rfl rfl aa.p rfl rfl) ?_ | refine LOps.nil ?_ | refine andThen_normal ?_ | refine andThen_exit ?_ | refine andThen_ret ?_ | refine inBlock_normal ?_ | refine inBlock_ret ?_ | refine inBlock_here ?_ | refine inBlock_out rfl ?_ | refine LWp.seq ?_ | refine LWp.region ?_ | refine LWp.block ?_ | refine LWp.exit ?_ | refine LWp.ret ?_ | refine LWp.skip ?_ | refine LOps.valA ?_ | refine LOps.outA ?_ | refine LOps.whenA ?_ | refine LOps.pickA ?_ | refine LOps.storeA ?_)
      refine LWp.cond rfl (fun h => ?_) (fun h => ?_)
      · have h8 : 7 < s2.all.length := by simp at h; omega
        rw [if_pos (by omega)]
        repeat (first | refine LOps.nil ?_ | refine andThen_normal ?_ | refine andThen_exit ?_ | refine andThen_ret ?_ | refine inBlock_normal ?_ | refine inBlock_ret ?_ | refine inBlock_here ?_ | refine inBlock_out rfl ?_ | refine LWp.seq ?_ | refine LWp.region ?_ | refine LWp.block ?_ | refine LWp.exit ?_ | refine LWp.ret ?_ | refine LWp.skip ?_ | refine LOps.valA ?_ | refine LOps.outA ?_ | refine LOps.whenA ?_ | refine LOps.pickA ?_ | refine LOps.storeA ?_)
        exact ⟨_, LRes.one rfl, rfl, aa.nw.le⟩
      · have h8 : s2.all.length ≤ 7 := by simp at h; omega
        repeat (first | refine LOps.nil ?_ | refine andThen_normal ?_ | refine andThen_exit ?_ | refine andThen_ret ?_ | refine inBlock_normal ?_ | refine inBlock_ret ?_ | refine inBlock_here ?_ | refine inBlock_out rfl ?_ | refine LWp.seq ?_ | refine LWp.region ?_ | refine LWp.block ?_ | refine LWp.exit ?_ | refine LWp.ret ?_ | refine LWp.skip ?_ | refine LOps.valA ?_ | refine LOps.outA ?_ | refine LOps.whenA ?_ | refine LOps.pickA ?_ | refine LOps.storeA ?_)
        exact ⟨evs.length - (j + 1), by omega, _, j + 1, (rsl r off s.all.length c), al, by omega, rfl, by rw [← hs2]; exact aa, hma, by rw [← hs2]; exact hnum, by rw [← hs2]; exact hbs, by rw [← hs2]; exact h8, holds.over ⟨rfl, rfl, rfl, by rw [← hs2]; rfl, rfl, rfl, rfl, trivial⟩⟩
    · have hk3 : ¬ ev.kind = 3 := by simpa using h
      rw [if_neg hk3] at e1
      subst e1
      have h2 := hml
      repeat (first | refine LOps.valH (LVal.load hD rfl rfl aa.box rfl rfl) ?_ | refine LOps.valH (LVal.lenPt hD rfl rfl aa.p rfl rfl) ?_ | refine LOps.nil ?_ | refine andThen_normal ?_ | refine andThen_exit ?_ | refine andThen_ret ?_ | refine inBlock_normal ?_ | refine inBlock_ret ?_ | refine inBlock_here ?_ | refine inBlock_out rfl ?_ | refine LWp.seq ?_ | refine LWp.region ?_ | refine LWp.block ?_ | refine LWp.exit ?_ | refine LWp.ret ?_ | refine LWp.skip ?_ | refine LOps.valA ?_ | refine LOps.outA ?_ | refine LOps.whenA ?_ | refine LOps.pickA ?_ | refine LOps.storeA ?_)
      refine LWp.cond rfl (fun h => ?_) (fun h => ?_)
      · have h8 : 7 < s2.all.length := by simp at h; omega
        rw [if_pos (by omega)]
        repeat (first | refine LOps.nil ?_ | refine andThen_normal ?_ | refine andThen_exit ?_ | refine andThen_ret ?_ | refine inBlock_normal ?_ | refine inBlock_ret ?_ | refine inBlock_here ?_ | refine inBlock_out rfl ?_ | refine LWp.seq ?_ | refine LWp.region ?_ | refine LWp.block ?_ | refine LWp.exit ?_ | refine LWp.ret ?_ | refine LWp.skip ?_ | refine LOps.valA ?_ | refine LOps.outA ?_ | refine LOps.whenA ?_ | refine LOps.pickA ?_ | refine LOps.storeA ?_)
        exact ⟨_, LRes.one rfl, rfl, aa.nw.le⟩
      · have h8 : s2.all.length ≤ 7 := by simp at h; omega
        repeat (first | refine LOps.nil ?_ | refine andThen_normal ?_ | refine andThen_exit ?_ | refine andThen_ret ?_ | refine inBlock_normal ?_ | refine inBlock_ret ?_ | refine inBlock_here ?_ | refine inBlock_out rfl ?_ | refine LWp.seq ?_ | refine LWp.region ?_ | refine LWp.block ?_ | refine LWp.exit ?_ | refine LWp.ret ?_ | refine LWp.skip ?_ | refine LOps.valA ?_ | refine LOps.outA ?_ | refine LOps.whenA ?_ | refine LOps.pickA ?_ | refine LOps.storeA ?_)
        exact ⟨evs.length - (j + 1), by omega, _, j + 1, X, al, by omega, rfl, by rw [← hs2]; exact aa, hma, by rw [← hs2]; exact hnum, by rw [← hs2]; exact hbs, by rw [← hs2]; exact h8, holds.over ⟨rfl, rfl, rfl, by rw [← hs2]; rfl, rfl, rfl, rfl, trivial⟩⟩
  · have hge : j = evs.length := by simp at h; omega
    subst hge
    rw [List.take_length] at aa hbits h7
    rw [if_neg (by omega)]
    repeat (first | refine LOps.nil ?_ | refine andThen_normal ?_ | refine andThen_exit ?_ | refine andThen_ret ?_ | refine inBlock_normal ?_ | refine inBlock_ret ?_ | refine inBlock_here ?_ | refine inBlock_out rfl ?_ | refine LWp.seq ?_ | refine LWp.region ?_ | refine LWp.block ?_ | refine LWp.exit ?_ | refine LWp.ret ?_ | refine LWp.skip ?_ | refine LOps.valA ?_ | refine LOps.outA ?_ | refine LOps.whenA ?_ | refine LOps.pickA ?_ | refine LOps.storeA ?_)
    refine LOps.do (LDo.alloc hD rfl rfl rfl) rfl rfl rfl ?_
    rintro _ _ ⟨b13, hb13, rfl, rfl⟩
    have hle8 : ∀ z cs, S'.le ((S'.newBox b13 z).setBox b13 cs) := fun z cs => (LS.le.newBox (.refl _) hb13 z).setBox hb13.box cs
    repeat (first | refine LOps.valH (LVal.makeFunc (vs := [.pointer (some ⟨b7, 0, none⟩), .pointer (some ⟨b13, 0, none⟩)]) rfl rfl) ?_ | refine LOps.nil ?_ | refine andThen_normal ?_ | refine andThen_exit ?_ | refine andThen_ret ?_ | refine inBlock_normal ?_ | refine inBlock_ret ?_ | refine inBlock_here ?_ | refine inBlock_out rfl ?_ | refine LWp.seq ?_ | refine LWp.region ?_ | refine LWp.block ?_ | refine LWp.exit ?_ | refine LWp.ret ?_ | refine LWp.skip ?_ | refine LOps.valA ?_ | refine LOps.outA ?_ | refine LOps.whenA ?_ | refine LOps.pickA ?_ | refine LOps.storeA ?_)
    refine LOps.gen (fun S2 => AllAt S S2 b7 X (foldO evs).all ∧ S2.box b13 = some [.v (tryV b7 b13)]) ⟨aa.le (hle8 _ _), box_set _ _ _⟩ ?_
    clear aa hma hle8 hb13
    rintro S2 ⟨aa, k13⟩
    have hS2 : TryAt S2 (foldO evs).all b7 b13 X := ⟨aa.box, k13, aa.p⟩
    have hc0 : cnt (foldO evs).all.length 0 < (foldO evs).all.length + 1 := by
      have := List.countP_le_length (p := fun i => !(0 : Nat).testBit i) (l := List.range (foldO evs).all.length)
      rw [List.length_range] at this
      unfold cnt; omega
    repeat (first | refine LOps.valH (LVal.load hD rfl rfl k13 rfl rfl) ?_ | refine LOps.nil ?_ | refine andThen_normal ?_ | refine andThen_exit ?_ | refine andThen_ret ?_ | refine inBlock_normal ?_ | refine inBlock_ret ?_ | refine inBlock_here ?_ | refine inBlock_out rfl ?_ | refine LWp.seq ?_ | refine LWp.region ?_ | refine LWp.block ?_ | refine LWp.exit ?_ | refine LWp.ret ?_ | refine LWp.skip ?_ | refine LOps.valA ?_ | refine LOps.outA ?_ | refine LOps.whenA ?_ | refine LOps.pickA ?_ | refine LOps.storeA ?_)
    refine LOps.do (LDo.callV (cs := [.pointer (some ⟨b7, 0, none⟩), .pointer (some ⟨b13, 0, none⟩)]) rfl rfl rfl rfl (by rw [hP]; exact Try.func38) rfl (by decide) (try_L hP (foldO evs).all h7 hbits.ah b7 b13 X ((foldO evs).all.length + 1) 0 l (by decide) hc0 (by omega) _ hS2)) rfl rfl rfl ?_
    rintro _ S3 ⟨rfl, h3⟩
    repeat (first | refine LOps.nil ?_ | refine andThen_normal ?_ | refine andThen_exit ?_ | refine andThen_ret ?_ | refine inBlock_normal ?_ | refine inBlock_ret ?_ | refine inBlock_here ?_ | refine inBlock_out rfl ?_ | refine LWp.seq ?_ | refine LWp.region ?_ | refine LWp.block ?_ | refine LWp.exit ?_ | refine LWp.ret ?_ | refine LWp.skip ?_ | refine LOps.valA ?_ | refine LOps.outA ?_ | refine LOps.whenA ?_ | refine LOps.pickA ?_ | refine LOps.storeA ?_)
    exact ⟨_, LRes.one rfl, rfl, aa.nw.le.trans h3⟩
theorem some_F {G : Ctx} (hP : G.P = Try.prog) (l : List Pr) (hl : l.length ≤ 1000) (evs : List Ev) (hr : evs.length ≤ 1000) :
    LFun G 19 [.one (.sl .sh (l.map prL)), .one (.sl .sh (evs.map evL))] (.one (bv (someS l evs))) := LFun.of fun S => some_L hP l hl evs hr S
end Go.Proofs.Ytandbjhedkgldaa.LF
