/- The sorted map's walk, second half: set, drop, New, All, Len. -/
import Derived.Test.YtndcdmmmfplbbaaLOb
set_option linter.unusedVariables false
set_option linter.unusedSimpArgs false
namespace Go.Proofs.Ytndcdmmmfplbbaa.LF
open Go.RowKit
set_option linter.unusedVariables false

theorem MvO.setRow {S : LS} {b r n c : Nat} {cs' : List LV} : MvO S b (rsl r 0 n c) (S.setBox r cs') (rsl r 0 n c) :=
  ⟨fun d cs hb _ hx => (Mv.set (S := S) (r := r) (n := n) (c := c) (n' := n) (c' := c) (cs' := cs')).box d cs hb hx, fun _ _ h => h, fun _ _ h => h, Nat.le_refl _⟩

set_option maxHeartbeats 2000000 in
theorem set_L {G : Ctx} (hP : G.P = Try.prog) (l : List Pr) (hl : l.length ≤ 1000000) (key val : ByteArray) (b : Nat) (X : LV) (S : LS) (m : OM S b X l) :
    LCalls G 25 [ptr b, .one (sv key), .one (sv val)] (fun r S' => r = .tup [] ∧ ∃ X', OM S' b X' (setP l key val) ∧ MvO S b X S' X') S := by
  have hD : TabOK G.P D := by rw [hP]; exact hD0
  have hb := m.box
  refine LCalls.enter (fn := Try.f25) (by rw [hP]; exact Try.func25) rfl rfl ?_
  repeat (first | refine LWp.condF rfl ?_ | refine LOps.nil ?_ | refine andThen_normal ?_ | refine andThen_exit ?_ | refine andThen_ret ?_ | refine inBlock_normal ?_ | refine inBlock_ret ?_ | refine inBlock_here ?_ | refine inBlock_out rfl ?_ | refine LWp.seq ?_ | refine LWp.region ?_ | refine LWp.block ?_ | refine LWp.exit ?_ | refine LWp.ret ?_ | refine LWp.skip ?_ | refine LOps.valA ?_ | refine LOps.outA ?_ | refine LOps.whenA ?_ | refine LOps.pickA ?_ | refine LOps.storeA ?_)
  refine LOps.do (LDo.callX (find_L hP l hl key b X S m) (by rw [hP]; exact Try.func31)) rfl rfl rfl ?_
  rintro _ S1 ⟨rfl, hS1⟩
  subst hS1
  repeat (first | refine LOps.nil ?_ | refine andThen_normal ?_ | refine andThen_exit ?_ | refine andThen_ret ?_ | refine inBlock_normal ?_ | refine inBlock_ret ?_ | refine inBlock_here ?_ | refine inBlock_out rfl ?_ | refine LWp.seq ?_ | refine LWp.region ?_ | refine LWp.block ?_ | refine LWp.exit ?_ | refine LWp.ret ?_ | refine LWp.skip ?_ | refine LOps.valA ?_ | refine LOps.outA ?_ | refine LOps.whenA ?_ | refine LOps.pickA ?_ | refine LOps.storeA ?_)
  refine LWp.cond rfl (fun h => ?_) (fun h => ?_)
  · have h : hasP l key = true := h
    obtain ⟨hlt, hk⟩ := hasP_lt h
    obtain ⟨r, c, rest, rfl, hr⟩ := m.sl.row_of (by omega)
    have hbr := hr.box
    have hlen := hr.len prL_len
    have hcap := hr.cap
    have hoff : (0 + ((posP l key : Nat) : Int).toNat * ti50.size + 1) = posP l key * 2 + 1 := by rw [Nat.zero_add, Int.toNat_natCast]; rfl
    repeat (first | refine LOps.valH (LVal.indexR hD rfl rfl rfl rfl rfl rfl (by omega) (by omega)) ?_ | refine LOps.nil ?_ | refine andThen_normal ?_ | refine andThen_exit ?_ | refine andThen_ret ?_ | refine inBlock_normal ?_ | refine inBlock_ret ?_ | refine inBlock_here ?_ | refine inBlock_out rfl ?_ | refine LWp.seq ?_ | refine LWp.region ?_ | refine LWp.block ?_ | refine LWp.exit ?_ | refine LWp.ret ?_ | refine LWp.skip ?_ | refine LOps.valA ?_ | refine LOps.outA ?_ | refine LOps.whenA ?_ | refine LOps.pickA ?_ | refine LOps.storeA ?_)
    refine LOps.do0 (LDo.store hD rfl rfl hbr rfl rfl rfl (by
      rw [Nat.ble_eq]
      show (0 + ((posP l key : Nat) : Int).toNat * ti50.size + 1) + 1 ≤ _
      rw [hoff, hlen]; omega)) rfl rfl ?_
    rintro _ _ ⟨rfl, rfl⟩
    rw [show (splice (cellsR prL l ++ rest) (0 + ((posP l key : Nat) : Int).toNat * ti50.size + 1) [sv val]) = cellsR prL (l.set (posP l key) ⟨key, val⟩) ++ rest by
      rw [hoff]
      exact set_cells (x := (⟨key, val⟩ : Pr)) (A := [sv key]) (y' := [sv val]) (B := []) (y := [sv l[posP l key].val]) prL_len hlt (by show [sv l[posP l key].key, _] = _; rw [hk]; rfl) rfl rfl rfl]
    repeat (first | refine LOps.nil ?_ | refine andThen_normal ?_ | refine andThen_exit ?_ | refine andThen_ret ?_ | refine inBlock_normal ?_ | refine inBlock_ret ?_ | refine inBlock_here ?_ | refine inBlock_out rfl ?_ | refine LWp.seq ?_ | refine LWp.region ?_ | refine LWp.block ?_ | refine LWp.exit ?_ | refine LWp.ret ?_ | refine LWp.skip ?_ | refine LOps.valA ?_ | refine LOps.outA ?_ | refine LOps.whenA ?_ | refine LOps.pickA ?_ | refine LOps.storeA ?_)
    refine ⟨_, LRes.none rfl, rfl, rsl r 0 l.length c, ?_, .setRow⟩
    have hs := m.srt.set key val
    rw [setP, if_pos h] at hs ⊢
    have hne : r ≠ b := fun e => m.ne (by rw [e]; rfl)
    have hfin := SlAt.row (f := prL) (z := 2) (S := LS.setBox S1 r (cellsR prL (l.set (posP l key) ⟨key, val⟩) ++ rest)) r c (l.set (posP l key) ⟨key, val⟩) rest ⟨box_set _ _ _, by rw [List.length_set]; exact hr.room, by rw [List.length_set]; exact hr.cap⟩
    rw [List.length_set] at hfin
    exact ⟨(box_set_ne _ _ (fun e => hne e.symm)).trans hb, hfin, m.ne, hs⟩
  have h : hasP l key = false := h
  repeat (first | (refine LOps.do (LDo.buildSliceR (n := 1) (ps := [(0, .tmp 33)]) (lp := [(0, [sv key, sv val])]) (l := [sv key, sv val]) hD rfl rfl rfl rfl rfl rfl rfl rfl rfl rfl rfl) rfl rfl rfl ?_; rintro _ _ ⟨b1, hb1, rfl, rfl⟩) | refine LOps.nil ?_ | refine andThen_normal ?_ | refine andThen_exit ?_ | refine andThen_ret ?_ | refine inBlock_normal ?_ | refine inBlock_ret ?_ | refine inBlock_here ?_ | refine inBlock_out rfl ?_ | refine LWp.seq ?_ | refine LWp.region ?_ | refine LWp.block ?_ | refine LWp.exit ?_ | refine LWp.ret ?_ | refine LWp.skip ?_ | refine LOps.valA ?_ | refine LOps.outA ?_ | refine LOps.whenA ?_ | refine LOps.pickA ?_ | refine LOps.storeA ?_)
  have hle := LS.le.newBox (.refl S1) hb1 ([sv key, sv val] : List LV)
  have m1 := m.le hle
  have hne : blockOf X ≠ some b1 := fun e => by
    obtain ⟨cs, hcs⟩ := m.sl.block b1 e
    rw [hb1.box] at hcs; cases hcs
  refine LOps.do (LDo.callX (insP_L hP prL_len l (posP_le l key) ⟨key, val⟩ X b1 _ m1.sl (box_new _ _ _) hne hl) (by rw [hP]; exact Try.func39)) rfl rfl rfl ?_
  rintro _ S2 ⟨X', rfl, hs2, mv⟩
  have hb2 := (mv.box b _ m1.box m1.ne).1
  repeat (first | refine LOps.nil ?_ | refine andThen_normal ?_ | refine andThen_exit ?_ | refine andThen_ret ?_ | refine inBlock_normal ?_ | refine inBlock_ret ?_ | refine inBlock_here ?_ | refine inBlock_out rfl ?_ | refine LWp.seq ?_ | refine LWp.region ?_ | refine LWp.block ?_ | refine LWp.exit ?_ | refine LWp.ret ?_ | refine LWp.skip ?_ | refine LOps.valA ?_ | refine LOps.outA ?_ | refine LOps.whenA ?_ | refine LOps.pickA ?_ | refine LOps.storeA ?_)
  refine ⟨_, LRes.none rfl, rfl, X', ?_, ?_⟩
  · have hs := m.srt.set key val
    rw [setP, if_neg (by rw [h]; decide)] at hs ⊢
    exact m1.store mv hs2 hs
  · exact MvO.after (l := l) hle (MvO.store mv _)
theorem setN_F {G : Ctx} (hP : G.P = Try.prog) (key val : ByteArray) : LFun G 25 [.one (.v (.pointer none)), .one (sv key), .one (sv val)] (.tup []) := LFun.of fun S => by
  have hD : TabOK G.P D := by rw [hP]; exact hD0
  refine LCalls.enter (fn := Try.f25) (by rw [hP]; exact Try.func25) rfl rfl ?_
  repeat (first | refine LWp.condT rfl ?_ | refine LOps.nil ?_ | refine andThen_normal ?_ | refine andThen_exit ?_ | refine andThen_ret ?_ | refine inBlock_normal ?_ | refine inBlock_ret ?_ | refine inBlock_here ?_ | refine inBlock_out rfl ?_ | refine LWp.seq ?_ | refine LWp.region ?_ | refine LWp.block ?_ | refine LWp.exit ?_ | refine LWp.ret ?_ | refine LWp.skip ?_ | refine LOps.valA ?_ | refine LOps.outA ?_ | refine LOps.whenA ?_ | refine LOps.pickA ?_ | refine LOps.storeA ?_)
  exact ⟨_, LRes.none rfl, rfl, .refl _⟩

set_option maxHeartbeats 2000000 in
theorem drop_L {G : Ctx} (hP : G.P = Try.prog) (l : List Pr) (hl : l.length ≤ 1000000) (key : ByteArray) (b : Nat) (X : LV) (S : LS) (m : OM S b X l) :
    LCalls G 30 [ptr b, .one (sv key)] (fun r S' => r = .tup [] ∧ ∃ X', OM S' b X' (dropP l key) ∧ MvO S b X S' X') S := by
  have hD : TabOK G.P D := by rw [hP]; exact hD0
  have hb := m.box
  refine LCalls.enter (fn := Try.f30) (by rw [hP]; exact Try.func30) rfl rfl ?_
  repeat (first | refine LOps.nil ?_ | refine andThen_normal ?_ | refine andThen_exit ?_ | refine andThen_ret ?_ | refine inBlock_normal ?_ | refine inBlock_ret ?_ | refine inBlock_here ?_ | refine inBlock_out rfl ?_ | refine LWp.seq ?_ | refine LWp.region ?_ | refine LWp.block ?_ | refine LWp.exit ?_ | refine LWp.ret ?_ | refine LWp.skip ?_ | refine LOps.valA ?_ | refine LOps.outA ?_ | refine LOps.whenA ?_ | refine LOps.pickA ?_ | refine LOps.storeA ?_)
  refine LOps.do (LDo.callX (find_L hP l hl key b X S m) (by rw [hP]; exact Try.func31)) rfl rfl rfl ?_
  rintro _ _ ⟨rfl, rfl⟩
  repeat (first | refine LOps.nil ?_ | refine andThen_normal ?_ | refine andThen_exit ?_ | refine andThen_ret ?_ | refine inBlock_normal ?_ | refine inBlock_ret ?_ | refine inBlock_here ?_ | refine inBlock_out rfl ?_ | refine LWp.seq ?_ | refine LWp.region ?_ | refine LWp.block ?_ | refine LWp.exit ?_ | refine LWp.ret ?_ | refine LWp.skip ?_ | refine LOps.valA ?_ | refine LOps.outA ?_ | refine LOps.whenA ?_ | refine LOps.pickA ?_ | refine LOps.storeA ?_)
  refine LWp.cond rfl (fun h => ?_) (fun h => ?_)
  · have h : hasP l key = true := h
    obtain ⟨hlt, hk⟩ := hasP_lt h
    repeat (first | refine LOps.nil ?_ | refine andThen_normal ?_ | refine andThen_exit ?_ | refine andThen_ret ?_ | refine inBlock_normal ?_ | refine inBlock_ret ?_ | refine inBlock_here ?_ | refine inBlock_out rfl ?_ | refine LWp.seq ?_ | refine LWp.region ?_ | refine LWp.block ?_ | refine LWp.exit ?_ | refine LWp.ret ?_ | refine LWp.skip ?_ | refine LOps.valA ?_ | refine LOps.outA ?_ | refine LOps.whenA ?_ | refine LOps.pickA ?_ | refine LOps.storeA ?_)
    refine LOps.do (LDo.callX (delP_L hP prL_len l hlt X _ m.sl hl) (by rw [hP]; exact Try.func40)) rfl rfl rfl ?_
    rintro _ S2 ⟨X', rfl, hs2, mv⟩
    have hb2 := (mv.box b _ m.box m.ne).1
    repeat (first | refine LOps.nil ?_ | refine andThen_normal ?_ | refine andThen_exit ?_ | refine andThen_ret ?_ | refine inBlock_normal ?_ | refine inBlock_ret ?_ | refine inBlock_here ?_ | refine inBlock_out rfl ?_ | refine LWp.seq ?_ | refine LWp.region ?_ | refine LWp.block ?_ | refine LWp.exit ?_ | refine LWp.ret ?_ | refine LWp.skip ?_ | refine LOps.valA ?_ | refine LOps.outA ?_ | refine LOps.whenA ?_ | refine LOps.pickA ?_ | refine LOps.storeA ?_)
    refine ⟨_, LRes.none rfl, rfl, X', ?_, MvO.store mv _⟩
    have hs := m.srt.drop key
    rw [dropP, if_pos h] at hs ⊢
    exact m.store mv hs2 hs
  have h : hasP l key = false := h
  repeat (first | refine LOps.nil ?_ | refine andThen_normal ?_ | refine andThen_exit ?_ | refine andThen_ret ?_ | refine inBlock_normal ?_ | refine inBlock_ret ?_ | refine inBlock_here ?_ | refine inBlock_out rfl ?_ | refine LWp.seq ?_ | refine LWp.region ?_ | refine LWp.block ?_ | refine LWp.exit ?_ | refine LWp.ret ?_ | refine LWp.skip ?_ | refine LOps.valA ?_ | refine LOps.outA ?_ | refine LOps.whenA ?_ | refine LOps.pickA ?_ | refine LOps.storeA ?_)
  refine ⟨_, LRes.none rfl, rfl, X, ?_, .refl _ _ _⟩
  rw [dropP, if_neg (by rw [h]; decide)]; exact m
theorem dropN_F {G : Ctx} (hP : G.P = Try.prog) (key : ByteArray) : LFun G 30 [.one (.v (.pointer none)), .one (sv key)] (.tup []) := LFun.of fun S => by
  have hD : TabOK G.P D := by rw [hP]; exact hD0
  refine LCalls.enter (fn := Try.f30) (by rw [hP]; exact Try.func30) rfl rfl ?_
  repeat (first | refine LWp.condF rfl ?_ | refine LOps.nil ?_ | refine andThen_normal ?_ | refine andThen_exit ?_ | refine andThen_ret ?_ | refine inBlock_normal ?_ | refine inBlock_ret ?_ | refine inBlock_here ?_ | refine inBlock_out rfl ?_ | refine LWp.seq ?_ | refine LWp.region ?_ | refine LWp.block ?_ | refine LWp.exit ?_ | refine LWp.ret ?_ | refine LWp.skip ?_ | refine LOps.val (LVal.call rfl rfl (by rw [hP]; exact Try.func31) rfl (by decide) (findN_F hP key)) rfl rfl rfl ?_ | refine LOps.whenC (LVal.call rfl rfl (by rw [hP]; exact Try.func31) rfl (by decide) (findN_F hP key)) ?_ | refine LOps.valA ?_ | refine LOps.outA ?_ | refine LOps.whenA ?_ | refine LOps.pickA ?_ | refine LOps.storeA ?_)
  exact ⟨_, LRes.none rfl, rfl, .refl _⟩

theorem len_L {G : Ctx} (hP : G.P = Try.prog) (l : List Pr) (b : Nat) (X : LV) (S : LS) (m : OM S b X l) :
    LCalls G 20 [ptr b] (fun r S' => r = .one (iv (l.length : Nat)) ∧ S' = S) S := by
  have hD : TabOK G.P D := by rw [hP]; exact hD0
  have hb := m.box
  have hs := m.sl
  refine LCalls.enter (fn := Try.f20) (by rw [hP]; exact Try.func20) rfl rfl ?_
  cases hs with
  | nil =>
    repeat (first | refine LWp.condF rfl ?_ | refine LOps.nil ?_ | refine andThen_normal ?_ | refine andThen_exit ?_ | refine andThen_ret ?_ | refine inBlock_normal ?_ | refine inBlock_ret ?_ | refine inBlock_here ?_ | refine inBlock_out rfl ?_ | refine LWp.seq ?_ | refine LWp.region ?_ | refine LWp.block ?_ | refine LWp.exit ?_ | refine LWp.ret ?_ | refine LWp.skip ?_ | refine LOps.valA ?_ | refine LOps.outA ?_ | refine LOps.whenA ?_ | refine LOps.pickA ?_ | refine LOps.storeA ?_)
    exact ⟨_, LRes.one rfl, rfl, rfl⟩
  | row r c _ rest hr =>
    repeat (first | refine LWp.condF rfl ?_ | refine LOps.valH (LVal.lenR hD rfl rfl rfl rfl) ?_ | refine LOps.nil ?_ | refine andThen_normal ?_ | refine andThen_exit ?_ | refine andThen_ret ?_ | refine inBlock_normal ?_ | refine inBlock_ret ?_ | refine inBlock_here ?_ | refine inBlock_out rfl ?_ | refine LWp.seq ?_ | refine LWp.region ?_ | refine LWp.block ?_ | refine LWp.exit ?_ | refine LWp.ret ?_ | refine LWp.skip ?_ | refine LOps.valA ?_ | refine LOps.outA ?_ | refine LOps.whenA ?_ | refine LOps.pickA ?_ | refine LOps.storeA ?_)
    exact ⟨_, LRes.one rfl, rfl, rfl⟩
theorem lenN_F {G : Ctx} (hP : G.P = Try.prog) : LFun G 20 [.one (.v (.pointer none))] (.one (iv 0)) := LFun.of fun S => by
  have hD : TabOK G.P D := by rw [hP]; exact hD0
  refine LCalls.enter (fn := Try.f20) (by rw [hP]; exact Try.func20) rfl rfl ?_
  repeat (first | refine LWp.condT rfl ?_ | refine LOps.nil ?_ | refine andThen_normal ?_ | refine andThen_exit ?_ | refine andThen_ret ?_ | refine inBlock_normal ?_ | refine inBlock_ret ?_ | refine inBlock_here ?_ | refine inBlock_out rfl ?_ | refine LWp.seq ?_ | refine LWp.region ?_ | refine LWp.block ?_ | refine LWp.exit ?_ | refine LWp.ret ?_ | refine LWp.skip ?_ | refine LOps.valA ?_ | refine LOps.outA ?_ | refine LOps.whenA ?_ | refine LOps.pickA ?_ | refine LOps.storeA ?_)
  exact ⟨_, LRes.one rfl, rfl, .refl _⟩

theorem all_L {G : Ctx} (hP : G.P = Try.prog) (l : List Pr) (hl : l.length ≤ 1000000) (b : Nat) (X : LV) (S : LS) (m : OM S b X l) :
    LCalls G 14 [ptr b] (fun r S' => ∃ Y, r = .one Y ∧ SlAt prL 2 S' Y l ∧ S.le S' ∧ ∀ c, blockOf Y = some c → S.box c = none) S := by
  have hD : TabOK G.P D := by rw [hP]; exact hD0
  have hb := m.box
  refine LCalls.enter (fn := Try.f14) (by rw [hP]; exact Try.func14) rfl rfl ?_
  repeat (first | refine LWp.condF rfl ?_ | refine LOps.nil ?_ | refine andThen_normal ?_ | refine andThen_exit ?_ | refine andThen_ret ?_ | refine inBlock_normal ?_ | refine inBlock_ret ?_ | refine inBlock_here ?_ | refine inBlock_out rfl ?_ | refine LWp.seq ?_ | refine LWp.region ?_ | refine LWp.block ?_ | refine LWp.exit ?_ | refine LWp.ret ?_ | refine LWp.skip ?_ | refine LOps.valA ?_ | refine LOps.outA ?_ | refine LOps.whenA ?_ | refine LOps.pickA ?_ | refine LOps.storeA ?_)
  refine LOps.do (LDo.callX (cloneP_L hP prL_len l X _ m.sl hl) (by rw [hP]; exact Try.func27)) rfl rfl rfl ?_
  rintro _ S2 ⟨Y, rfl, h1, h2, h3⟩
  repeat (first | refine LOps.nil ?_ | refine andThen_normal ?_ | refine andThen_exit ?_ | refine andThen_ret ?_ | refine inBlock_normal ?_ | refine inBlock_ret ?_ | refine inBlock_here ?_ | refine inBlock_out rfl ?_ | refine LWp.seq ?_ | refine LWp.region ?_ | refine LWp.block ?_ | refine LWp.exit ?_ | refine LWp.ret ?_ | refine LWp.skip ?_ | refine LOps.valA ?_ | refine LOps.outA ?_ | refine LOps.whenA ?_ | refine LOps.pickA ?_ | refine LOps.storeA ?_)
  exact ⟨_, LRes.one rfl, Y, rfl, h1, h2, h3⟩
theorem allN_F {G : Ctx} (hP : G.P = Try.prog) : LFun G 14 [.one (.v (.pointer none))] (.one (.sl .nil [])) := LFun.of fun S => by
  have hD : TabOK G.P D := by rw [hP]; exact hD0
  refine LCalls.enter (fn := Try.f14) (by rw [hP]; exact Try.func14) rfl rfl ?_
  repeat (first | refine LWp.condT rfl ?_ | refine LOps.nil ?_ | refine andThen_normal ?_ | refine andThen_exit ?_ | refine andThen_ret ?_ | refine inBlock_normal ?_ | refine inBlock_ret ?_ | refine inBlock_here ?_ | refine inBlock_out rfl ?_ | refine LWp.seq ?_ | refine LWp.region ?_ | refine LWp.block ?_ | refine LWp.exit ?_ | refine LWp.ret ?_ | refine LWp.skip ?_ | refine LOps.valA ?_ | refine LOps.outA ?_ | refine LOps.whenA ?_ | refine LOps.pickA ?_ | refine LOps.storeA ?_)
  exact ⟨_, LRes.one rfl, rfl, .refl _⟩

/-- A map of pairs. -/
def newP (l : List Pr) : List Pr := l.foldl (fun m p => setP m p.key p.val) []
theorem newP_srt (l : List Pr) : Srt (newP l) := by
  have : ∀ (l m : List Pr), Srt m → Srt (l.foldl (fun m p => setP m p.key p.val) m) := by
    intro l
    induction l with
    | nil => exact fun m h => h
    | cons p l ih => exact fun m h => ih _ (h.set _ _)
  exact this l [] .nil
theorem newP_take {l : List Pr} {j : Nat} (h : j < l.length) : newP (l.take (j + 1)) = setP (newP (l.take j)) l[j].key l[j].val := by
  unfold newP
  rw [List.take_succ_eq_append_getElem h, List.foldl_append]; rfl
theorem newP_length (l : List Pr) : (newP l).length ≤ l.length := by
  have : ∀ (l m : List Pr), (l.foldl (fun m p => setP m p.key p.val) m).length ≤ m.length + l.length := by
    intro l
    induction l with
    | nil => intro m; simp
    | cons p l ih =>
      intro m
      have := ih (setP m p.key p.val)
      have := setP_length m p.key p.val
      rw [List.foldl_cons, List.length_cons]; omega
  have h := this l []
  rw [List.length_nil, Nat.zero_add] at h
  exact h

set_option maxHeartbeats 2000000 in
theorem new_L {G : Ctx} (hP : G.P = Try.prog) (o : Own) (l : List Pr) (hl : l.length ≤ 1000000) (S : LS) :
    LCalls G 11 [.one (.sl o (l.map prL))] (fun r S' => ∃ b X, r = ptr b ∧ OM S' b X (newP l) ∧ S.le S' ∧ S.box b = none ∧ ∀ c, blockOf X = some c → S.box c = none) S := LCalls.wf fun hwf => by
  have hD : TabOK G.P D := by rw [hP]; exact hD0
  have hml : (l.map prL).length = l.length := List.length_map ..
  refine LCalls.enter (fn := Try.f11) (by rw [hP]; exact Try.func11) rfl rfl ?_
  repeat (first | refine LOps.nil ?_ | refine andThen_normal ?_ | refine andThen_exit ?_ | refine andThen_ret ?_ | refine inBlock_normal ?_ | refine inBlock_ret ?_ | refine inBlock_here ?_ | refine inBlock_out rfl ?_ | refine LWp.seq ?_ | refine LWp.region ?_ | refine LWp.block ?_ | refine LWp.exit ?_ | refine LWp.ret ?_ | refine LWp.skip ?_ | refine LOps.valA ?_ | refine LOps.outA ?_ | refine LOps.whenA ?_ | refine LOps.pickA ?_ | refine LOps.storeA ?_)
  refine LOps.do (LDo.box rfl rfl) rfl rfl rfl ?_
  rintro _ _ ⟨b, hb, rfl, rfl⟩
  have hle := LS.le.newBox (.refl S) hb ([.sl .nil []] : List LV)
  repeat (first | refine LOps.nil ?_ | refine andThen_normal ?_ | refine andThen_exit ?_ | refine andThen_ret ?_ | refine inBlock_normal ?_ | refine inBlock_ret ?_ | refine inBlock_here ?_ | refine inBlock_out rfl ?_ | refine LWp.seq ?_ | refine LWp.region ?_ | refine LWp.block ?_ | refine LWp.exit ?_ | refine LWp.ret ?_ | refine LWp.skip ?_ | refine LOps.valA ?_ | refine LOps.outA ?_ | refine LOps.whenA ?_ | refine LOps.pickA ?_ | refine LOps.storeA ?_)
  refine LWp.loop (fun k T S' => ∃ (T' : Nat → TV) (j : Nat) (X : LV), j ≤ l.length ∧ k = l.length - j ∧ OM S' b X (newP (l.take j)) ∧ S.le S' ∧ S.box b = none ∧ (∀ c, blockOf X = some c → S.box c = none) ∧
    T = over T' [(3, ptr b), (8, .one (.sl o (l.map prL))), (9, .one (iv (l.length : Nat))), (10, .one (iv (j : Nat)))]) l.length ?_ ?_
  · exact ⟨_, 0, .sl .nil [], by omega, rfl, ⟨box_new _ _ _, .nil, by simp [blockOf], .nil⟩, hle, hb.box, (fun c hc => by cases hc), holds.over ⟨rfl, rfl, by rw [← hml]; rfl, rfl, trivial⟩⟩
  rintro k T S1 ⟨T', j, X, hj, rfl, m, hle1, hbn, hx, rfl⟩
  repeat (first | refine LOps.nil ?_ | refine andThen_normal ?_ | refine andThen_exit ?_ | refine andThen_ret ?_ | refine inBlock_normal ?_ | refine inBlock_ret ?_ | refine inBlock_here ?_ | refine inBlock_out rfl ?_ | refine LWp.seq ?_ | refine LWp.region ?_ | refine LWp.block ?_ | refine LWp.exit ?_ | refine LWp.ret ?_ | refine LWp.skip ?_ | refine LOps.valA ?_ | refine LOps.outA ?_ | refine LOps.whenA ?_ | refine LOps.pickA ?_ | refine LOps.storeA ?_)
  refine LWp.cond rfl (fun h => ?_) (fun h => ?_)
  · have hlt : j < l.length := by simp at h; omega
    repeat (first | refine LOps.nil ?_ | refine andThen_normal ?_ | refine andThen_exit ?_ | refine andThen_ret ?_ | refine inBlock_normal ?_ | refine inBlock_ret ?_ | refine inBlock_here ?_ | refine inBlock_out rfl ?_ | refine LWp.seq ?_ | refine LWp.region ?_ | refine LWp.block ?_ | refine LWp.exit ?_ | refine LWp.ret ?_ | refine LWp.skip ?_ | refine LOps.valA ?_ | refine LOps.outA ?_ | refine LOps.whenA ?_ | refine LOps.pickA ?_ | refine LOps.storeA ?_)
    refine LOps.do (LDo.alloc hD rfl rfl rfl) rfl rfl rfl ?_
    rintro _ _ ⟨b5, hb5, rfl, rfl⟩
    have hbx1 : b ≠ b5 := fun e => by have := m.box; rw [e, hb5.box] at this; cases this
    have hx5 : blockOf X ≠ some b5 := fun e => by
      obtain ⟨cs, hcs⟩ := m.sl.block b5 e
      rw [hb5.box] at hcs; cases hcs
    have hle2 := (LS.le.newBox (.refl S1) hb5 (lzero ti50)).setBox hb5.box [sv l[j].key, sv l[j].val]
    have m2 := m.le hle2
    repeat (first | refine LOps.nil ?_ | refine andThen_normal ?_ | refine andThen_exit ?_ | refine andThen_ret ?_ | refine inBlock_normal ?_ | refine inBlock_ret ?_ | refine inBlock_here ?_ | refine inBlock_out rfl ?_ | refine LWp.seq ?_ | refine LWp.region ?_ | refine LWp.block ?_ | refine LWp.exit ?_ | refine LWp.ret ?_ | refine LWp.skip ?_ | refine LOps.valA ?_ | refine LOps.outA ?_ | refine LOps.whenA ?_ | refine LOps.pickA ?_ | refine LOps.storeA ?_)
    refine LOps.gen (fun S' => S' = (S1.newBox b5 (lzero ti50)).setBox b5 [sv l[j].key, sv l[j].val]) rfl ?_
    rintro S2 rfl
    refine LOps.do (LDo.callX (set_L hP (newP (l.take j)) (by have := newP_length (l.take j); rw [List.length_take] at this; omega) l[j].key l[j].val b X _ m2) (by rw [hP]; exact Try.func25)) rfl rfl rfl ?_
    rintro _ S3 ⟨rfl, X', m3, mv⟩
    repeat (first | refine LOps.nil ?_ | refine andThen_normal ?_ | refine andThen_exit ?_ | refine andThen_ret ?_ | refine inBlock_normal ?_ | refine inBlock_ret ?_ | refine inBlock_here ?_ | refine inBlock_out rfl ?_ | refine LWp.seq ?_ | refine LWp.region ?_ | refine LWp.block ?_ | refine LWp.exit ?_ | refine LWp.ret ?_ | refine LWp.skip ?_ | refine LOps.valA ?_ | refine LOps.outA ?_ | refine LOps.whenA ?_ | refine LOps.pickA ?_ | refine LOps.storeA ?_)
    refine ⟨l.length - (j + 1), by omega, _, j + 1, X', by omega, rfl, by rw [newP_take hlt]; exact m3, ?_, hbn, fun c hc => ?_, holds.over ⟨rfl, rfl, rfl, rfl, trivial⟩⟩
    · exact ⟨fun c cs hc => (mv.box c cs (hle2.box c cs (hle1.box c cs hc)) (fun e => by rw [e, hbn] at hc; cases hc) (fun e => by rw [hx c e] at hc; cases hc)).1, fun c x hc => mv.row c x (hle2.row c x (hle1.row c x hc)), fun c x hc => mv.obj c x (hle2.obj c x (hle1.obj c x hc)), Nat.le_trans hle1.top (Nat.le_trans hle2.top mv.top)⟩
    · cases hq : S.box c with
      | none => rfl
      | some cs => exact absurd hc (mv.box c cs (hle2.box c cs (hle1.box c cs hq)) (fun e => by rw [e, hbn] at hq; cases hq) (fun e => by rw [hx c e] at hq; cases hq)).2
  · have hge : j = l.length := by simp at h; omega
    subst hge
    rw [List.take_length] at m
    repeat (first | refine LOps.nil ?_ | refine andThen_normal ?_ | refine andThen_exit ?_ | refine andThen_ret ?_ | refine inBlock_normal ?_ | refine inBlock_ret ?_ | refine inBlock_here ?_ | refine inBlock_out rfl ?_ | refine LWp.seq ?_ | refine LWp.region ?_ | refine LWp.block ?_ | refine LWp.exit ?_ | refine LWp.ret ?_ | refine LWp.skip ?_ | refine LOps.valA ?_ | refine LOps.outA ?_ | refine LOps.whenA ?_ | refine LOps.pickA ?_ | refine LOps.storeA ?_)
    exact ⟨_, LRes.one rfl, b, X, rfl, m, hle1, hbn, hx⟩
end Go.Proofs.Ytndcdmmmfplbbaa.LF
