/- The sorted map's walk, first half: find, get, set, drop over a memory. -/
import Derived.Test.YtndcdmmmfplbbaaLOa
import Derived.Test.YtndcdmmmfplbbaaLInP
set_option linter.unusedVariables false
set_option linter.unusedSimpArgs false
namespace Go.Proofs.Ytndcdmmmfplbbaa.LF
open Go.RowKit
set_option linter.unusedVariables false

theorem posP_of : ∀ {l : List Pr} {k : ByteArray} {n : Nat} (hn : n ≤ l.length), (∀ (i : Nat) (hi : i < n), ltS (l[i]'(by omega)).key k = true) → (∀ (h : n < l.length), ltS l[n].key k = false) → posP l k = n
  | [], k, n, hn, _, _ => by simp at hn; subst hn; rfl
  | p :: l, k, 0, hn, _, h2 => by
    have := h2 (by simp)
    simp only [List.getElem_cons_zero] at this
    simp [posP, this]
  | p :: l, k, n + 1, hn, h1, h2 => by
    have h0 := h1 0 (by omega)
    simp only [List.getElem_cons_zero] at h0
    have ih := posP_of (l := l) (k := k) (n := n) (by simpa using hn) (fun i hi => by
      have := h1 (i + 1) (by omega)
      simpa using this) (fun h => by
      have := h2 (by simpa using h)
      simpa using this)
    unfold posP at ih ⊢
    simp [h0, ih]
theorem Srt.at {l : List Pr} (h : Srt l) {i j : Nat} (hij : i < j) (hj : j < l.length) : ltS (l[i]'(by omega)).key l[j].key = true := List.pairwise_iff_getElem.1 h i j _ hj hij

abbrev findFn : LV := .v (.func (.func 42) #[] #[])
theorem find1_F {G : Ctx} (hP : G.P = Try.prog) (p : Pr) (key : ByteArray) : LFun G 42 [.agg (prL p), .one (sv key)] (.one (iv (cmpS p.key key))) := LFun.of fun S => by
  have hD : TabOK G.P D := by rw [hP]; exact hD0
  refine LCalls.enter (fn := Try.f42) (by rw [hP]; exact Try.func42) rfl rfl ?_
  repeat (first | refine LOps.nil ?_ | refine andThen_normal ?_ | refine andThen_exit ?_ | refine andThen_ret ?_ | refine inBlock_normal ?_ | refine inBlock_ret ?_ | refine inBlock_here ?_ | refine inBlock_out rfl ?_ | refine LWp.seq ?_ | refine LWp.region ?_ | refine LWp.block ?_ | refine LWp.exit ?_ | refine LWp.ret ?_ | refine LWp.skip ?_ | refine LOps.valA ?_ | refine LOps.outA ?_ | refine LOps.whenA ?_ | refine LOps.pickA ?_ | refine LOps.storeA ?_)
  refine LOps.do (LDo.box rfl rfl) rfl rfl rfl ?_
  rintro _ _ ⟨b2, hb2, rfl, rfl⟩
  repeat (first | refine LOps.nil ?_ | refine andThen_normal ?_ | refine andThen_exit ?_ | refine andThen_ret ?_ | refine inBlock_normal ?_ | refine inBlock_ret ?_ | refine inBlock_here ?_ | refine inBlock_out rfl ?_ | refine LWp.seq ?_ | refine LWp.region ?_ | refine LWp.block ?_ | refine LWp.exit ?_ | refine LWp.ret ?_ | refine LWp.skip ?_ | refine LOps.val (LVal.call rfl rfl (by rw [hP]; exact Try.func43) rfl (by decide) (cmp_F hP p.key key)) rfl rfl rfl ?_ | refine LOps.whenC (LVal.call rfl rfl (by rw [hP]; exact Try.func43) rfl (by decide) (cmp_F hP p.key key)) ?_ | refine LOps.valA ?_ | refine LOps.outA ?_ | refine LOps.whenA ?_ | refine LOps.pickA ?_ | refine LOps.storeA ?_)
  exact ⟨_, LRes.one rfl, rfl, .newBox (.refl _) hb2 _⟩

set_option maxHeartbeats 4000000 in
theorem bsP_F {G : Ctx} (hP : G.P = Try.prog) (l : List Pr) (hl : l.length ≤ 1000000) (key : ByteArray) (hr : Srt l) : LFun G 41 [.one (.sl .sh (l.map prL)), .one (sv key), .one findFn] (.tup [.one (iv (posP l key : Nat)), .one (bv (hasP l key))]) := LFun.of fun S => by
  have hD : TabOK G.P D := by rw [hP]; exact hD0
  have hml : (l.map prL).length = l.length := List.length_map ..
  refine LCalls.enter (fn := Try.f41) (by rw [hP]; exact Try.func41) rfl rfl ?_
  repeat (first | refine LWp.seq (LWp.cut 3 (fun T' S' => S' = S ∧ ∃ T'', T' = over T'' [(0, .one (.sl .sh (l.map prL))), (1, .one (sv key)), (2, .one findFn), (8, .one (iv (l.length : Nat))), (9, .one (iv (posP l key : Nat)))]) rfl ?_ ?_) | refine LOps.nil ?_ | refine andThen_normal ?_ | refine andThen_exit ?_ | refine andThen_ret ?_ | refine inBlock_normal ?_ | refine inBlock_ret ?_ | refine inBlock_here ?_ | refine inBlock_out rfl ?_ | refine LWp.seq ?_ | refine LWp.region ?_ | refine LWp.block ?_ | refine LWp.exit ?_ | refine LWp.ret ?_ | refine LWp.skip ?_ | refine LOps.valA ?_ | refine LOps.outA ?_ | refine LOps.whenA ?_ | refine LOps.pickA ?_ | refine LOps.storeA ?_)
  · refine LWp.loop (fun k T S' => S' = S ∧ ∃ (T' : Nat → TV) (i j : Nat), i ≤ j ∧ j ≤ l.length ∧ k = j - i ∧ (∀ (q : Nat) (hq : q < i) (hl : q < l.length), ltS l[q].key key = true) ∧ (∀ (q : Nat) (hq : j ≤ q) (hl : q < l.length), ltS l[q].key key = false) ∧
      T = over T' [(0, .one (.sl .sh (l.map prL))), (1, .one (sv key)), (2, .one findFn), (8, .one (iv (l.length : Nat))), (9, .one (iv (i : Nat))), (10, .one (iv (j : Nat)))]) l.length ?_ ?_
    · exact ⟨rfl, _, 0, l.length, by omega, by omega, rfl, fun q hq => by omega, fun q hq hl => by omega, holds.over ⟨rfl, rfl, rfl, by rw [← hml]; rfl, rfl, by rw [← hml]; rfl, trivial⟩⟩
    rintro k T S1 ⟨rfl, T', i, j, hij, hjl, rfl, hlo, hhi, rfl⟩
    repeat (first | refine LOps.nil ?_ | refine andThen_normal ?_ | refine andThen_exit ?_ | refine andThen_ret ?_ | refine inBlock_normal ?_ | refine inBlock_ret ?_ | refine inBlock_here ?_ | refine inBlock_out rfl ?_ | refine LWp.seq ?_ | refine LWp.region ?_ | refine LWp.block ?_ | refine LWp.exit ?_ | refine LWp.ret ?_ | refine LWp.skip ?_ | refine LOps.valA ?_ | refine LOps.outA ?_ | refine LOps.whenA ?_ | refine LOps.pickA ?_ | refine LOps.storeA ?_)
    refine LWp.cond rfl (fun h => ?_) (fun h => ?_)
    · have hlt : i < j := by simp at h; omega
      have hmid : (i + j) / 2 < l.length := by omega
      have e1 : (((i : Int) + (j : Int)) / 2 ^ (1 : Int).toNat) = (((i + j) / 2 : Nat) : Int) := by
        show ((i : Int) + (j : Int)) / 2 = _
        omega
      have hc := find1_F hP l[(i + j) / 2] key
      repeat (first | refine LOps.val (r := .one (.v (.int .u64 (((i + j) / 2 : Nat) : Int)))) (LVal.to (LVal.shr64 rfl rfl rfl (by omega)) (by rw [e1])) rfl rfl rfl ?_ | refine LOps.nil ?_ | refine andThen_normal ?_ | refine andThen_exit ?_ | refine andThen_ret ?_ | refine inBlock_normal ?_ | refine inBlock_ret ?_ | refine inBlock_here ?_ | refine inBlock_out rfl ?_ | refine LWp.seq ?_ | refine LWp.region ?_ | refine LWp.block ?_ | refine LWp.exit ?_ | refine LWp.ret ?_ | refine LWp.skip ?_ | refine LOps.valA ?_ | refine LOps.outA ?_ | refine LOps.whenA ?_ | refine LOps.pickA ?_ | refine LOps.storeA ?_)
      refine LOps.val (LVal.callF2 (f := 42) rfl rfl rfl (by rw [hP]; exact Try.func42) rfl (by decide) hc) rfl rfl rfl ?_
      repeat (first | refine LOps.nil ?_ | refine andThen_normal ?_ | refine andThen_exit ?_ | refine andThen_ret ?_ | refine inBlock_normal ?_ | refine inBlock_ret ?_ | refine inBlock_here ?_ | refine inBlock_out rfl ?_ | refine LWp.seq ?_ | refine LWp.region ?_ | refine LWp.block ?_ | refine LWp.exit ?_ | refine LWp.ret ?_ | refine LWp.skip ?_ | refine LOps.valA ?_ | refine LOps.outA ?_ | refine LOps.whenA ?_ | refine LOps.pickA ?_ | refine LOps.storeA ?_)
      refine LWp.cond rfl (fun h => ?_) (fun h => ?_)
      · have hb : ltS l[(i + j) / 2].key key = true := cmpS_lt.1 (by simpa using h)
        repeat (first | refine LOps.nil ?_ | refine andThen_normal ?_ | refine andThen_exit ?_ | refine andThen_ret ?_ | refine inBlock_normal ?_ | refine inBlock_ret ?_ | refine inBlock_here ?_ | refine inBlock_out rfl ?_ | refine LWp.seq ?_ | refine LWp.region ?_ | refine LWp.block ?_ | refine LWp.exit ?_ | refine LWp.ret ?_ | refine LWp.skip ?_ | refine LOps.valA ?_ | refine LOps.outA ?_ | refine LOps.whenA ?_ | refine LOps.pickA ?_ | refine LOps.storeA ?_)
        refine ⟨j - ((i + j) / 2 + 1), by omega, rfl, _, (i + j) / 2 + 1, j, by omega, hjl, rfl, fun q hq hl => ?_, hhi, holds.over ⟨rfl, rfl, rfl, rfl, rfl, rfl, trivial⟩⟩
        rcases Nat.lt_or_ge q ((i + j) / 2) with h2 | h2
        · exact ltS_trans (hr.at h2 hmid) hb
        · obtain rfl : q = (i + j) / 2 := by omega
          exact hb
      · have hb : ltS l[(i + j) / 2].key key = false := by
          have h : decide (cmpS l[(i + j) / 2].key key < 0) = false := h
          rw [decide_eq_false_iff_not, cmpS_lt] at h
          simpa using h
        repeat (first | refine LOps.nil ?_ | refine andThen_normal ?_ | refine andThen_exit ?_ | refine andThen_ret ?_ | refine inBlock_normal ?_ | refine inBlock_ret ?_ | refine inBlock_here ?_ | refine inBlock_out rfl ?_ | refine LWp.seq ?_ | refine LWp.region ?_ | refine LWp.block ?_ | refine LWp.exit ?_ | refine LWp.ret ?_ | refine LWp.skip ?_ | refine LOps.valA ?_ | refine LOps.outA ?_ | refine LOps.whenA ?_ | refine LOps.pickA ?_ | refine LOps.storeA ?_)
        refine ⟨(i + j) / 2 - i, by omega, rfl, _, i, (i + j) / 2, by omega, by omega, rfl, hlo, fun q hq hl => ?_, holds.over ⟨rfl, rfl, rfl, rfl, rfl, rfl, trivial⟩⟩
        rcases Nat.lt_or_ge ((i + j) / 2) q with h2 | h2
        · cases hq : ltS l[q].key key with
          | false => rfl
          | true => have := ltS_trans (hr.at h2 hl) hq; rw [hb] at this; cases this
        · obtain rfl : q = (i + j) / 2 := by omega
          exact hb
    · have hge : i = j := by simp at h; omega
      subst hge
      have e : posP l key = i := posP_of hjl (fun q hq => hlo q hq (by omega)) (fun h => hhi i (Nat.le_refl _) h)
      repeat (first | refine LOps.nil ?_ | refine andThen_normal ?_ | refine andThen_exit ?_ | refine andThen_ret ?_ | refine inBlock_normal ?_ | refine inBlock_ret ?_ | refine inBlock_here ?_ | refine inBlock_out rfl ?_ | refine LWp.seq ?_ | refine LWp.region ?_ | refine LWp.block ?_ | refine LWp.exit ?_ | refine LWp.ret ?_ | refine LWp.skip ?_ | refine LOps.valA ?_ | refine LOps.outA ?_ | refine LOps.whenA ?_ | refine LOps.pickA ?_ | refine LOps.storeA ?_)
      exact ⟨rfl, _, holds.over ⟨rfl, rfl, rfl, rfl, by rw [e]; rfl, trivial⟩⟩
  rintro T' S ⟨rfl, T'', rfl⟩
  have hle := posP_le l key
  haveI : Inhabited Pr := ⟨⟨noBytes, noBytes⟩⟩
  have hc := find1_F hP (l.getD (posP l key) default) key
  repeat (first | refine LOps.whenC (LVal.callF2 (f := 42) rfl rfl rfl (by rw [hP]; exact Try.func42) rfl (by decide) hc) ?_ | refine LOps.nil ?_ | refine andThen_normal ?_ | refine andThen_exit ?_ | refine andThen_ret ?_ | refine inBlock_normal ?_ | refine inBlock_ret ?_ | refine inBlock_here ?_ | refine inBlock_out rfl ?_ | refine LWp.seq ?_ | refine LWp.region ?_ | refine LWp.block ?_ | refine LWp.exit ?_ | refine LWp.ret ?_ | refine LWp.skip ?_ | refine LOps.valA ?_ | refine LOps.outA ?_ | refine LOps.whenA ?_ | refine LOps.pickA ?_ | refine LOps.storeA ?_)
  refine ⟨_, LRes.two rfl, ?_, .refl _⟩
  show TV.tup [.one (iv (posP l key : Nat)), .one (bv (decide (((posP l key : Nat) : Int) < ((l.length : Nat) : Int)) && (cmpS (l.getD (posP l key) default).key key == 0)))] = _
  have e : (decide (((posP l key : Nat) : Int) < ((l.length : Nat) : Int)) && (cmpS (l.getD (posP l key) default).key key == 0)) = hasP l key := by
    unfold hasP
    by_cases hlt : posP l key < l.length
    · have e1 : l.getD (posP l key) default = l[posP l key] := by rw [List.getD_eq_getElem?_getD, List.getElem?_eq_getElem hlt]; rfl
      rw [Bool.eq_iff_iff, e1, Bool.and_eq_true, beq_iff_eq, cmpS_zero, decide_eq_true_iff, List.getElem?_eq_getElem hlt]
      simp only [decide_eq_true_iff]
      exact ⟨fun h => h.2, fun h => ⟨by omega, h⟩⟩
    · rw [List.getElem?_eq_none (by omega), decide_eq_false (by omega)]; simp
  rw [e]

/-- A map in a memory. -/
structure OM (S : LS) (b : Nat) (X : LV) (l : List Pr) : Prop where
  box : S.box b = some [X]
  sl : SlAt prL 2 S X l
  ne : blockOf X ≠ some b
  srt : Srt l
/-- A map is written: the rest stays, and stays apart. -/
structure MvO (S : LS) (b : Nat) (X : LV) (S' : LS) (X' : LV) : Prop where
  box : ∀ c cs, S.box c = some cs → c ≠ b → blockOf X ≠ some c → S'.box c = some cs ∧ blockOf X' ≠ some c
  row : ∀ b x, S.row b = some x → S'.row b = some x
  obj : ∀ b x, S.obj b = some x → S'.obj b = some x
  top : S.top ≤ S'.top
theorem MvO.refl (S : LS) (b : Nat) (X : LV) : MvO S b X S X := ⟨fun c cs h _ k => ⟨h, k⟩, fun _ _ h => h, fun _ _ h => h, Nat.le_refl _⟩
theorem MvO.trans {S S' S'' : LS} {b : Nat} {X X' X'' : LV} (h : MvO S b X S' X') (k : MvO S' b X' S'' X'') : MvO S b X S'' X'' :=
  ⟨fun c cs hb hc hx => k.box c cs (h.box c cs hb hc hx).1 hc (h.box c cs hb hc hx).2, fun b x hb => k.row b x (h.row b x hb), fun b x hb => k.obj b x (h.obj b x hb), Nat.le_trans h.top k.top⟩
theorem OM.le {S S' : LS} {b : Nat} {X : LV} {l : List Pr} (m : OM S b X l) (h : S.le S') : OM S' b X l := ⟨h.box _ _ m.box, m.sl.le h, m.ne, m.srt⟩
theorem MvO.le {S S' S'' : LS} {b : Nat} {X X' : LV} (h : MvO S b X S' X') (k : S'.le S'') : MvO S b X S'' X' :=
  ⟨fun c cs hb hc hx => ⟨k.box c cs (h.box c cs hb hc hx).1, (h.box c cs hb hc hx).2⟩, fun b x hb => k.row b x (h.row b x hb), fun b x hb => k.obj b x (h.obj b x hb), Nat.le_trans h.top k.top⟩
theorem MvO.after {S S1 S' : LS} {b : Nat} {X X' : LV} {l : List Pr} (k : S.le S1) (h : MvO S1 b X S' X') : MvO S b X S' X' :=
  ⟨fun c cs hb hc hx => h.box c cs (k.box _ _ hb) hc hx, fun b x hb => h.row b x (k.row _ _ hb), fun b x hb => h.obj b x (k.obj _ _ hb), Nat.le_trans k.top h.top⟩
/-- Behind a slice's writing: the map's variable is written. -/
theorem MvO.store {S S1 : LS} {b : Nat} {X X' : LV} (h : Mv S X S1 X') (cs' : List LV) : MvO S b X (S1.setBox b cs') X' :=
  ⟨fun c cs hb hc hx => ⟨(box_set_ne S1 cs' hc).trans (h.box c cs hb hx).1, (h.box c cs hb hx).2⟩, h.row, h.obj, h.top⟩
theorem OM.store {S S1 : LS} {b : Nat} {X X' : LV} {l l' : List Pr} (m : OM S b X l) (h : Mv S X S1 X') (k : SlAt prL 2 S1 X' l') (hs : Srt l') : OM (S1.setBox b [X']) b X' l' := by
  have hne := (h.box b _ m.box m.ne).2
  refine ⟨box_set _ _ _, ?_, hne, hs⟩
  cases k with
  | nil => exact .nil
  | row r c _ rest hr => exact .row r c l' rest ⟨(box_set_ne S1 _ (fun e => hne (by rw [e]; rfl))).trans hr.box, hr.room, hr.cap⟩
/-- Two maps apart: writing the one leaves the other. -/
theorem OM.apart {S S' : LS} {b b2 : Nat} {X X' Y : LV} {l m : List Pr} (h : MvO S b X S' X') (k : OM S b2 Y m) (h1 : b2 ≠ b) (h2 : blockOf X ≠ some b2) (h3 : blockOf Y ≠ some b) (h4 : ∀ r, blockOf Y = some r → blockOf X ≠ some r) : OM S' b2 Y m := by
  refine ⟨(h.box b2 _ k.box h1 h2).1, ?_, k.ne, k.srt⟩
  have hs := k.sl
  cases hs with
  | nil => exact .nil
  | row r c _ rest hr =>
    exact .row r c m rest ⟨(h.box r _ hr.box (fun e => h3 (by rw [e]; rfl)) (h4 r rfl)).1, hr.room, hr.cap⟩

set_option maxHeartbeats 1000000 in
theorem find_L {G : Ctx} (hP : G.P = Try.prog) (l : List Pr) (hl : l.length ≤ 1000000) (key : ByteArray) (b : Nat) (X : LV) (S : LS) (m : OM S b X l) :
    LCalls G 31 [ptr b, .one (sv key)] (fun r S' => r = .tup [.one (iv (posP l key : Nat)), .one (bv (hasP l key))] ∧ S' = S) S := by
  have hD : TabOK G.P D := by rw [hP]; exact hD0
  have hb := m.box
  refine LCalls.enter (fn := Try.f31) (by rw [hP]; exact Try.func31) rfl rfl ?_
  repeat (first | refine LWp.condF rfl ?_ | refine LOps.nil ?_ | refine andThen_normal ?_ | refine andThen_exit ?_ | refine andThen_ret ?_ | refine inBlock_normal ?_ | refine inBlock_ret ?_ | refine inBlock_here ?_ | refine inBlock_out rfl ?_ | refine LWp.seq ?_ | refine LWp.region ?_ | refine LWp.block ?_ | refine LWp.exit ?_ | refine LWp.ret ?_ | refine LWp.skip ?_ | refine LOps.valA ?_ | refine LOps.outA ?_ | refine LOps.whenA ?_ | refine LOps.pickA ?_ | refine LOps.storeA ?_)
  refine LOps.val (LVal.callAny (fun G' e => bsP_F (G := G') (by rw [e]; exact hP) l hl key m.srt) rfl rfl (by rw [hP]; exact Try.func41) rfl (by decide) ⟨.one (m.sl.view prL_len), .one (.same _), .one (.same _), trivial⟩) rfl rfl rfl ?_
  repeat (first | refine LOps.nil ?_ | refine andThen_normal ?_ | refine andThen_exit ?_ | refine andThen_ret ?_ | refine inBlock_normal ?_ | refine inBlock_ret ?_ | refine inBlock_here ?_ | refine inBlock_out rfl ?_ | refine LWp.seq ?_ | refine LWp.region ?_ | refine LWp.block ?_ | refine LWp.exit ?_ | refine LWp.ret ?_ | refine LWp.skip ?_ | refine LOps.valA ?_ | refine LOps.outA ?_ | refine LOps.whenA ?_ | refine LOps.pickA ?_ | refine LOps.storeA ?_)
  exact ⟨_, LRes.two rfl, rfl, rfl⟩
theorem findN_F {G : Ctx} (hP : G.P = Try.prog) (key : ByteArray) : LFun G 31 [.one (.v (.pointer none)), .one (sv key)] (.tup [.one (iv 0), .one (bv false)]) := LFun.of fun S => by
  have hD : TabOK G.P D := by rw [hP]; exact hD0
  refine LCalls.enter (fn := Try.f31) (by rw [hP]; exact Try.func31) rfl rfl ?_
  repeat (first | refine LWp.condT rfl ?_ | refine LOps.nil ?_ | refine andThen_normal ?_ | refine andThen_exit ?_ | refine andThen_ret ?_ | refine inBlock_normal ?_ | refine inBlock_ret ?_ | refine inBlock_here ?_ | refine inBlock_out rfl ?_ | refine LWp.seq ?_ | refine LWp.region ?_ | refine LWp.block ?_ | refine LWp.exit ?_ | refine LWp.ret ?_ | refine LWp.skip ?_ | refine LOps.valA ?_ | refine LOps.outA ?_ | refine LOps.whenA ?_ | refine LOps.pickA ?_ | refine LOps.storeA ?_)
  exact ⟨_, LRes.two rfl, rfl, .refl _⟩

/-- What is found, as a text. -/
def oldP (l : List Pr) (k : ByteArray) : ByteArray := (getP l k).getD noBytes
theorem rdKey {l : List Pr} {rest : List LV} {i : Nat} (hi : i < l.length) : readT ti9 ((cellsR prL l ++ rest).drop (i * 2)) = some (.one (sv l[i].key)) := by
  rw [cellsR_at prL_len l rest hi]; rfl
theorem rdVal {l : List Pr} {rest : List LV} {i : Nat} (hi : i < l.length) : readT ti9 ((cellsR prL l ++ rest).drop (i * 2 + 1)) = some (.one (sv l[i].val)) := by
  rw [← List.drop_drop, cellsR_at prL_len l rest hi]; rfl
theorem SlAt.row_of {α : Type} {f : α → List LV} {z : Nat} {S : LS} {X : LV} {l : List α} (h : SlAt f z S X l) (hl : 0 < l.length) : ∃ r c rest, X = rsl r 0 l.length c ∧ RowIn f z S r l c rest := by
  cases h with
  | nil => simp at hl
  | row r c _ rest h => exact ⟨r, c, rest, rfl, h⟩

set_option maxHeartbeats 1000000 in
theorem get_L {G : Ctx} (hP : G.P = Try.prog) (l : List Pr) (hl : l.length ≤ 1000000) (key : ByteArray) (b : Nat) (X : LV) (S : LS) (m : OM S b X l) :
    LCalls G 29 [ptr b, .one (sv key)] (fun r S' => r = .tup [.one (sv (oldP l key)), .one (bv (hasP l key))] ∧ S' = S) S := by
  have hD : TabOK G.P D := by rw [hP]; exact hD0
  have hb := m.box
  refine LCalls.enter (fn := Try.f29) (by rw [hP]; exact Try.func29) rfl rfl ?_
  repeat (first | refine LOps.nil ?_ | refine andThen_normal ?_ | refine andThen_exit ?_ | refine andThen_ret ?_ | refine inBlock_normal ?_ | refine inBlock_ret ?_ | refine inBlock_here ?_ | refine inBlock_out rfl ?_ | refine LWp.seq ?_ | refine LWp.region ?_ | refine LWp.block ?_ | refine LWp.exit ?_ | refine LWp.ret ?_ | refine LWp.skip ?_ | refine LOps.valA ?_ | refine LOps.outA ?_ | refine LOps.whenA ?_ | refine LOps.pickA ?_ | refine LOps.storeA ?_)
  refine LOps.do (LDo.callX (find_L hP l hl key b X S m) (by rw [hP]; exact Try.func31)) rfl rfl rfl ?_
  rintro _ _ ⟨rfl, rfl⟩
  repeat (first | refine LOps.nil ?_ | refine andThen_normal ?_ | refine andThen_exit ?_ | refine andThen_ret ?_ | refine inBlock_normal ?_ | refine inBlock_ret ?_ | refine inBlock_here ?_ | refine inBlock_out rfl ?_ | refine LWp.seq ?_ | refine LWp.region ?_ | refine LWp.block ?_ | refine LWp.exit ?_ | refine LWp.ret ?_ | refine LWp.skip ?_ | refine LOps.valA ?_ | refine LOps.outA ?_ | refine LOps.whenA ?_ | refine LOps.pickA ?_ | refine LOps.storeA ?_)
  refine LWp.cond rfl (fun h => ?_) (fun h => ?_)
  · have h : (!hasP l key) = true := h
    rw [Bool.not_eq_true'] at h
    repeat (first | refine LOps.nil ?_ | refine andThen_normal ?_ | refine andThen_exit ?_ | refine andThen_ret ?_ | refine inBlock_normal ?_ | refine inBlock_ret ?_ | refine inBlock_here ?_ | refine inBlock_out rfl ?_ | refine LWp.seq ?_ | refine LWp.region ?_ | refine LWp.block ?_ | refine LWp.exit ?_ | refine LWp.ret ?_ | refine LWp.skip ?_ | refine LOps.valA ?_ | refine LOps.outA ?_ | refine LOps.whenA ?_ | refine LOps.pickA ?_ | refine LOps.storeA ?_)
    exact ⟨_, LRes.two rfl, by rw [oldP, getP_no h, h]; rfl, rfl⟩
  have h : (!hasP l key) = false := h
  rw [Bool.not_eq_false'] at h
  obtain ⟨hlt, hk⟩ := hasP_lt h
  obtain ⟨r, c, rest, rfl, hr⟩ := m.sl.row_of (by omega)
  have hbr := hr.box
  repeat (first | refine LOps.valH (LVal.indexR hD rfl rfl rfl rfl rfl rfl (by omega) (by omega)) ?_ | refine LOps.valH (LVal.load hD rfl rfl hbr rfl (by rw [Nat.zero_add]; exact rdVal hlt)) ?_ | refine LOps.nil ?_ | refine andThen_normal ?_ | refine andThen_exit ?_ | refine andThen_ret ?_ | refine inBlock_normal ?_ | refine inBlock_ret ?_ | refine inBlock_here ?_ | refine inBlock_out rfl ?_ | refine LWp.seq ?_ | refine LWp.region ?_ | refine LWp.block ?_ | refine LWp.exit ?_ | refine LWp.ret ?_ | refine LWp.skip ?_ | refine LOps.valA ?_ | refine LOps.outA ?_ | refine LOps.whenA ?_ | refine LOps.pickA ?_ | refine LOps.storeA ?_)
  exact ⟨_, LRes.two rfl, by rw [oldP, getP_yes h, h]; rfl, rfl⟩
theorem getN_F {G : Ctx} (hP : G.P = Try.prog) (key : ByteArray) : LFun G 29 [.one (.v (.pointer none)), .one (sv key)] (.tup [.one (sv noBytes), .one (bv false)]) := LFun.of fun S => by
  have hD : TabOK G.P D := by rw [hP]; exact hD0
  refine LCalls.enter (fn := Try.f29) (by rw [hP]; exact Try.func29) rfl rfl ?_
  repeat (first | refine LWp.condT rfl ?_ | refine LOps.nil ?_ | refine andThen_normal ?_ | refine andThen_exit ?_ | refine andThen_ret ?_ | refine inBlock_normal ?_ | refine inBlock_ret ?_ | refine inBlock_here ?_ | refine inBlock_out rfl ?_ | refine LWp.seq ?_ | refine LWp.region ?_ | refine LWp.block ?_ | refine LWp.exit ?_ | refine LWp.ret ?_ | refine LWp.skip ?_ | refine LOps.val (LVal.call rfl rfl (by rw [hP]; exact Try.func31) rfl (by decide) (findN_F hP key)) rfl rfl rfl ?_ | refine LOps.whenC (LVal.call rfl rfl (by rw [hP]; exact Try.func31) rfl (by decide) (findN_F hP key)) ?_ | refine LOps.valA ?_ | refine LOps.outA ?_ | refine LOps.whenA ?_ | refine LOps.pickA ?_ | refine LOps.storeA ?_)
  exact ⟨_, LRes.two rfl, rfl, .refl _⟩
end Go.Proofs.Ytndcdmmmfplbbaa.LF
