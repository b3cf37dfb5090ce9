/- The B-link node's law: the walk of spoil (its slices are written over). (Printed by gen_spoil.py.) -/
import Derived.Test.YtjcpcgneghanfaaLBk
set_option linter.unusedVariables false
set_option linter.unusedSimpArgs false
namespace Go.Proofs.Ytjcpcgneghanfaa.LF
open Go.RowKit
set_option linter.unusedVariables false

/-- What is written over: nothing but the node's slices. -/
structure Spo (S : LS) (X Y Z : LV) (S' : LS) : Prop where
  box : ∀ b cs, S.box b = some cs → blockOf X ≠ some b → blockOf Y ≠ some b → blockOf Z ≠ some b → S'.box b = some cs
  row : ∀ b x, S.row b = some x → S'.row b = some x
  obj : ∀ b x, S.obj b = some x → S'.obj b = some x
  top : S.top ≤ S'.top
theorem LVal.lenAt {G : Ctx} {D : Tab} (hD : TabOK G.P D) {o : Oper} {T : Nat → TV} {S S' : LS} {t e : TypeId} {x : Operand} {X : LV} {i : TI} {α : Type} {f : α → List LV} {z : Nat} {l : List α} (ho : o.op = .call { callee := .builtin .len, args := #[x], argTypes := #[t] })
    (hx : lev T x = .one X) (h : SlAt f z S' X l) (hi : D.get t = some i) (hd : i.desc = .slice e) : LVal G o T S (.one (iv (l.length : Nat))) := by
  cases h with
  | nil => exact LVal.len hD ho hx hi hd
  | row r c _ rest h => exact LVal.lenR hD ho hx hi hd
theorem SlAt.setAt {α : Type} {f : α → List LV} {z : Nat} (hz : ∀ x, (f x).length = z) {S : LS} {r c : Nat} {l : List α} {rest : List LV} (h : RowIn f z S r l c rest) {j : Nat} (hj : j < l.length) (v : α) :
    splice (cellsR f l ++ rest) (j * z) (f v) = cellsR f (l.set j v) ++ rest ∧ SlAt f z (S.setBox r (cellsR f (l.set j v) ++ rest)) (rsl r 0 l.length c) (l.set j v) := by
  refine ⟨set_cells (x := v) (A := []) (y := f l[j]) (y' := f v) (B := []) hz hj (by simp) (by simp) (by rw [hz, hz]) (by simp), ?_⟩
  have hfin := SlAt.row (f := f) (z := z) (S := S.setBox r (cellsR f (l.set j v) ++ rest)) r c (l.set j v) rest ⟨box_set _ _ _, by rw [List.length_set]; exact h.room, by rw [List.length_set]; exact h.cap⟩
  rwa [List.length_set] at hfin

set_option maxHeartbeats 8000000 in
set_option maxRecDepth 10000 in
theorem spoil_L {G : Ctx} (hP : G.P = Try.prog) (n : NdV) (hn : n.ok) (X Y Z : LV) (S : LS) (hX : SlAt sL 1 S X n.keys) (hY : SlAt sL 1 S Y n.vals) (hZ : SlAt hdL 2 S Z n.kids) (xy : ∀ c, blockOf X = some c → blockOf Y ≠ some c) (xz : ∀ c, blockOf X = some c → blockOf Z ≠ some c) (yz : ∀ c, blockOf Y = some c → blockOf Z ≠ some c) : LCalls G 25 [.agg (ndX n X Y Z)] (fun r S' => Spo S X Y Z S') S := by
  have hD : TabOK G.P D := by rw [hP]; exact hD0
  have hnk := hn.keys
  have hnv := hn.vals
  have hnh := hn.kids
  refine LCalls.enter (fn := Try.f25) (by rw [hP]; exact Try.func25) rfl rfl ?_
  repeat (first | refine LOps.nil ?_ | refine andThen_normal ?_ | refine andThen_exit ?_ | refine andThen_ret ?_ | refine inBlock_normal ?_ | refine inBlock_ret ?_ | refine inBlock_here ?_ | refine inBlock_out rfl ?_ | refine LWp.seq ?_ | refine LWp.region ?_ | refine LWp.block ?_ | refine LWp.exit ?_ | refine LWp.ret ?_ | refine LWp.skip ?_ | refine LOps.valA ?_ | refine LOps.outA ?_ | refine LOps.whenA ?_ | refine LOps.pickA ?_ | refine LOps.storeA ?_)
  refine LOps.do (LDo.box rfl rfl) rfl rfl rfl ?_
  rintro _ _ ⟨b1, hb1, rfl, rfl⟩
  have k1 := box_new S b1 (ndX n X Y Z)
  have le1 := LS.le.newBox (.refl S) hb1 (ndX n X Y Z)
  have nb : ∀ {α : Type} {f : α → List LV} {z : Nat} {W : LV} {l : List α}, SlAt f z S W l → blockOf W ≠ some b1 := fun h e => by
    obtain ⟨cs, hcs⟩ := h.block b1 e
    rw [hb1.box] at hcs; cases hcs
  have x1 := nb hX
  have y1 := nb hY
  have z1 := nb hZ
  have hX1 := hX.le le1
  have hY1 := hY.le le1
  have hZ1 := hZ.le le1
  clear hX hY hZ
  generalize hS1 : S.newBox b1 (ndX n X Y Z) = S1 at *
  repeat (first | (refine LWp.seq (LWp.cut 1 (fun T' S' => ∃ (T'' : Nat → TV), Mv S1 X S' X ∧ T' = over T'' [(1, ptr b1)]) rfl ?_ ?_); rotate_left) | refine LOps.nil ?_ | refine andThen_normal ?_ | refine andThen_exit ?_ | refine andThen_ret ?_ | refine inBlock_normal ?_ | refine inBlock_ret ?_ | refine inBlock_here ?_ | refine inBlock_out rfl ?_ | refine LWp.seq ?_ | refine LWp.region ?_ | refine LWp.block ?_ | refine LWp.exit ?_ | refine LWp.ret ?_ | refine LWp.skip ?_ | refine LOps.valA ?_ | refine LOps.outA ?_ | refine LOps.whenA ?_ | refine LOps.pickA ?_ | refine LOps.storeA ?_)
  rotate_left
  · skip
    repeat (first | refine LOps.nil ?_ | refine andThen_normal ?_ | refine andThen_exit ?_ | refine andThen_ret ?_ | refine inBlock_normal ?_ | refine inBlock_ret ?_ | refine inBlock_here ?_ | refine inBlock_out rfl ?_ | refine LWp.seq ?_ | refine LWp.region ?_ | refine LWp.block ?_ | refine LWp.exit ?_ | refine LWp.ret ?_ | refine LWp.skip ?_ | refine LOps.valA ?_ | refine LOps.outA ?_ | refine LOps.whenA ?_ | refine LOps.pickA ?_ | refine LOps.storeA ?_)
    refine LWp.loop (fun m T S' => ∃ (T' : Nat → TV) (j : Nat) (qs : List ByteArray), j ≤ n.keys.length ∧ m = n.keys.length - j ∧ qs.length = n.keys.length ∧ SlAt sL 1 S' X qs ∧ Mv S1 X S' X ∧ T = over T' [(1, ptr b1), (2, .one (iv (j : Nat)))]) n.keys.length ?_ ?_
    · exact ⟨_, 0, n.keys, by omega, rfl, rfl, hX1, .refl _ _, holds.over ⟨rfl, rfl, trivial⟩⟩
    rintro m T S9 ⟨T', j, qs, hj, rfl, hq, hs, mv, rfl⟩
    have kb := (mv.box b1 _ k1 x1).1
    repeat (first | refine LOps.valH (LVal.lenAt hD rfl rfl hs rfl rfl) ?_ | refine LOps.nil ?_ | refine andThen_normal ?_ | refine andThen_exit ?_ | refine andThen_ret ?_ | refine inBlock_normal ?_ | refine inBlock_ret ?_ | refine inBlock_here ?_ | refine inBlock_out rfl ?_ | refine LWp.seq ?_ | refine LWp.region ?_ | refine LWp.block ?_ | refine LWp.exit ?_ | refine LWp.ret ?_ | refine LWp.skip ?_ | refine LOps.valA ?_ | refine LOps.outA ?_ | refine LOps.whenA ?_ | refine LOps.pickA ?_ | refine LOps.storeA ?_)
    refine LWp.cond rfl (fun h => ?_) (fun h => ?_)
    · have hlt : j < qs.length := by
        have h : decide ((j : Int) < (qs.length : Int)) = true := h
        rw [decide_eq_true_iff] at h; omega
      obtain ⟨r, c, rest, e, hrow⟩ := hs.row_of (by omega)
      have hbr := hrow.box
      have hlen := hrow.len sL_len
      have hcap := hrow.cap
      obtain ⟨e1, e2⟩ := SlAt.setAt sL_len hrow hlt ⟨#[115, 112, 111, 105, 108, 116]⟩
      rw [e] at mv kb
      have hoff : (0 + ((j : Nat) : Int).toNat * ti9.size) = j * 1 := by rw [Nat.zero_add, Int.toNat_natCast]; rfl
      repeat (first | refine LOps.valH (LVal.to (LVal.load hD rfl rfl kb rfl rfl) (r' := .one (rsl r 0 qs.length c)) (by first | rfl | (rw [e]; rfl))) ?_ | refine LOps.valH (LVal.indexR hD rfl rfl rfl rfl rfl rfl (by omega) (by omega)) ?_ | refine LOps.nil ?_ | refine andThen_normal ?_ | refine andThen_exit ?_ | refine andThen_ret ?_ | refine inBlock_normal ?_ | refine inBlock_ret ?_ | refine inBlock_here ?_ | refine inBlock_out rfl ?_ | refine LWp.seq ?_ | refine LWp.region ?_ | refine LWp.block ?_ | refine LWp.exit ?_ | refine LWp.ret ?_ | refine LWp.skip ?_ | refine LOps.valA ?_ | refine LOps.outA ?_ | refine LOps.whenA ?_ | refine LOps.pickA ?_)
      refine LOps.do0 (LDo.store hD rfl rfl hbr rfl rfl rfl (by
        rw [Nat.ble_eq]
        show (0 + ((j : Nat) : Int).toNat * ti9.size) + 1 ≤ _
        rw [hoff, hlen]; omega)) rfl rfl ?_
      rintro _ _ ⟨rfl, rfl⟩
      refine LOps.gen (fun S' => S' = S9.setBox r (cellsR sL (qs.set j ⟨#[115, 112, 111, 105, 108, 116]⟩) ++ rest)) (by exact congrArg (S9.setBox r) ((congrArg (fun q => splice (cellsR sL qs ++ rest) q [sv ⟨#[115, 112, 111, 105, 108, 116]⟩]) hoff).trans e1)) ?_
      rintro S8 hS8
      subst hS8
      repeat (first | refine LOps.nil ?_ | refine andThen_normal ?_ | refine andThen_exit ?_ | refine andThen_ret ?_ | refine inBlock_normal ?_ | refine inBlock_ret ?_ | refine inBlock_here ?_ | refine inBlock_out rfl ?_ | refine LWp.seq ?_ | refine LWp.region ?_ | refine LWp.block ?_ | refine LWp.exit ?_ | refine LWp.ret ?_ | refine LWp.skip ?_ | refine LOps.valA ?_ | refine LOps.outA ?_ | refine LOps.whenA ?_ | refine LOps.pickA ?_ | refine LOps.storeA ?_)
      exact ⟨n.keys.length - (j + 1), by omega, _, j + 1, qs.set j ⟨#[115, 112, 111, 105, 108, 116]⟩, by omega, rfl, by rw [List.length_set]; exact hq, by rw [e]; exact e2, by rw [e]; exact mv.trans .set, holds.over ⟨rfl, rfl, trivial⟩⟩
    repeat (first | refine LOps.nil ?_ | refine andThen_normal ?_ | refine andThen_exit ?_ | refine andThen_ret ?_ | refine inBlock_normal ?_ | refine inBlock_ret ?_ | refine inBlock_here ?_ | refine inBlock_out rfl ?_ | refine LWp.seq ?_ | refine LWp.region ?_ | refine LWp.block ?_ | refine LWp.exit ?_ | refine LWp.ret ?_ | refine LWp.skip ?_ | refine LOps.valA ?_ | refine LOps.outA ?_ | refine LOps.whenA ?_ | refine LOps.pickA ?_ | refine LOps.storeA ?_)
    exact ⟨_, mv, holds.over ⟨rfl, trivial⟩⟩
  rintro _ S2 ⟨T1, m1, rfl⟩
  have k2 := (m1.box b1 _ k1 x1).1
  have hY2 := hY1.keep m1 (fun c h e => xy c e h)
  have hZ2 := hZ1.keep m1 (fun c h e => xz c e h)
  repeat (first | (refine LWp.seq (LWp.cut 5 (fun T' S' => ∃ (T'' : Nat → TV), Mv S2 Y S' Y ∧ T' = over T'' [(1, ptr b1)]) rfl ?_ ?_); rotate_left) | refine LOps.nil ?_ | refine andThen_normal ?_ | refine andThen_exit ?_ | refine andThen_ret ?_ | refine inBlock_normal ?_ | refine inBlock_ret ?_ | refine inBlock_here ?_ | refine inBlock_out rfl ?_ | refine LWp.seq ?_ | refine LWp.region ?_ | refine LWp.block ?_ | refine LWp.exit ?_ | refine LWp.ret ?_ | refine LWp.skip ?_ | refine LOps.valA ?_ | refine LOps.outA ?_ | refine LOps.whenA ?_ | refine LOps.pickA ?_ | refine LOps.storeA ?_)
  rotate_left
  · skip
    repeat (first | refine LOps.nil ?_ | refine andThen_normal ?_ | refine andThen_exit ?_ | refine andThen_ret ?_ | refine inBlock_normal ?_ | refine inBlock_ret ?_ | refine inBlock_here ?_ | refine inBlock_out rfl ?_ | refine LWp.seq ?_ | refine LWp.region ?_ | refine LWp.block ?_ | refine LWp.exit ?_ | refine LWp.ret ?_ | refine LWp.skip ?_ | refine LOps.valA ?_ | refine LOps.outA ?_ | refine LOps.whenA ?_ | refine LOps.pickA ?_ | refine LOps.storeA ?_)
    refine LWp.loop (fun m T S' => ∃ (T' : Nat → TV) (j : Nat) (qs : List ByteArray), j ≤ n.vals.length ∧ m = n.vals.length - j ∧ qs.length = n.vals.length ∧ SlAt sL 1 S' Y qs ∧ Mv S2 Y S' Y ∧ T = over T' [(1, ptr b1), (3, .one (iv (j : Nat)))]) n.vals.length ?_ ?_
    · exact ⟨_, 0, n.vals, by omega, rfl, rfl, hY2, .refl _ _, holds.over ⟨rfl, rfl, trivial⟩⟩
    rintro m T S9 ⟨T', j, qs, hj, rfl, hq, hs, mv, rfl⟩
    have kb := (mv.box b1 _ k2 y1).1
    repeat (first | refine LOps.valH (LVal.lenAt hD rfl rfl hs rfl rfl) ?_ | refine LOps.nil ?_ | refine andThen_normal ?_ | refine andThen_exit ?_ | refine andThen_ret ?_ | refine inBlock_normal ?_ | refine inBlock_ret ?_ | refine inBlock_here ?_ | refine inBlock_out rfl ?_ | refine LWp.seq ?_ | refine LWp.region ?_ | refine LWp.block ?_ | refine LWp.exit ?_ | refine LWp.ret ?_ | refine LWp.skip ?_ | refine LOps.valA ?_ | refine LOps.outA ?_ | refine LOps.whenA ?_ | refine LOps.pickA ?_ | refine LOps.storeA ?_)
    refine LWp.cond rfl (fun h => ?_) (fun h => ?_)
    · have hlt : j < qs.length := by
        have h : decide ((j : Int) < (qs.length : Int)) = true := h
        rw [decide_eq_true_iff] at h; omega
      obtain ⟨r, c, rest, e, hrow⟩ := hs.row_of (by omega)
      have hbr := hrow.box
      have hlen := hrow.len sL_len
      have hcap := hrow.cap
      obtain ⟨e1, e2⟩ := SlAt.setAt sL_len hrow hlt ⟨#[115, 112, 111, 105, 108, 116]⟩
      rw [e] at mv kb
      have hoff : (0 + ((j : Nat) : Int).toNat * ti9.size) = j * 1 := by rw [Nat.zero_add, Int.toNat_natCast]; rfl
      repeat (first | refine LOps.valH (LVal.to (LVal.load hD rfl rfl kb rfl rfl) (r' := .one (rsl r 0 qs.length c)) (by first | rfl | (rw [e]; rfl))) ?_ | refine LOps.valH (LVal.indexR hD rfl rfl rfl rfl rfl rfl (by omega) (by omega)) ?_ | refine LOps.nil ?_ | refine andThen_normal ?_ | refine andThen_exit ?_ | refine andThen_ret ?_ | refine inBlock_normal ?_ | refine inBlock_ret ?_ | refine inBlock_here ?_ | refine inBlock_out rfl ?_ | refine LWp.seq ?_ | refine LWp.region ?_ | refine LWp.block ?_ | refine LWp.exit ?_ | refine LWp.ret ?_ | refine LWp.skip ?_ | refine LOps.valA ?_ | refine LOps.outA ?_ | refine LOps.whenA ?_ | refine LOps.pickA ?_)
      refine LOps.do0 (LDo.store hD rfl rfl hbr rfl rfl rfl (by
        rw [Nat.ble_eq]
        show (0 + ((j : Nat) : Int).toNat * ti9.size) + 1 ≤ _
        rw [hoff, hlen]; omega)) rfl rfl ?_
      rintro _ _ ⟨rfl, rfl⟩
      refine LOps.gen (fun S' => S' = S9.setBox r (cellsR sL (qs.set j ⟨#[115, 112, 111, 105, 108, 116]⟩) ++ rest)) (by exact congrArg (S9.setBox r) ((congrArg (fun q => splice (cellsR sL qs ++ rest) q [sv ⟨#[115, 112, 111, 105, 108, 116]⟩]) hoff).trans e1)) ?_
      rintro S8 hS8
      subst hS8
      repeat (first | refine LOps.nil ?_ | refine andThen_normal ?_ | refine andThen_exit ?_ | refine andThen_ret ?_ | refine inBlock_normal ?_ | refine inBlock_ret ?_ | refine inBlock_here ?_ | refine inBlock_out rfl ?_ | refine LWp.seq ?_ | refine LWp.region ?_ | refine LWp.block ?_ | refine LWp.exit ?_ | refine LWp.ret ?_ | refine LWp.skip ?_ | refine LOps.valA ?_ | refine LOps.outA ?_ | refine LOps.whenA ?_ | refine LOps.pickA ?_ | refine LOps.storeA ?_)
      exact ⟨n.vals.length - (j + 1), by omega, _, j + 1, qs.set j ⟨#[115, 112, 111, 105, 108, 116]⟩, by omega, rfl, by rw [List.length_set]; exact hq, by rw [e]; exact e2, by rw [e]; exact mv.trans .set, holds.over ⟨rfl, rfl, trivial⟩⟩
    repeat (first | refine LOps.nil ?_ | refine andThen_normal ?_ | refine andThen_exit ?_ | refine andThen_ret ?_ | refine inBlock_normal ?_ | refine inBlock_ret ?_ | refine inBlock_here ?_ | refine inBlock_out rfl ?_ | refine LWp.seq ?_ | refine LWp.region ?_ | refine LWp.block ?_ | refine LWp.exit ?_ | refine LWp.ret ?_ | refine LWp.skip ?_ | refine LOps.valA ?_ | refine LOps.outA ?_ | refine LOps.whenA ?_ | refine LOps.pickA ?_ | refine LOps.storeA ?_)
    exact ⟨_, mv, holds.over ⟨rfl, trivial⟩⟩
  rintro _ S3 ⟨T2, m2, rfl⟩
  have k3 := (m2.box b1 _ k2 y1).1
  have hZ3 := hZ2.keep m2 (fun c h e => yz c e h)
  repeat (first | refine LOps.nil ?_ | refine andThen_normal ?_ | refine andThen_exit ?_ | refine andThen_ret ?_ | refine inBlock_normal ?_ | refine inBlock_ret ?_ | refine inBlock_here ?_ | refine inBlock_out rfl ?_ | refine LWp.seq ?_ | refine LWp.region ?_ | refine LWp.block ?_ | refine LWp.exit ?_ | refine LWp.ret ?_ | refine LWp.skip ?_ | refine LOps.valA ?_ | refine LOps.outA ?_ | refine LOps.whenA ?_ | refine LOps.pickA ?_ | refine LOps.storeA ?_)
  refine LWp.loop (fun m T S' => ∃ (T' : Nat → TV) (j : Nat) (qs : List HdV), j ≤ n.kids.length ∧ m = n.kids.length - j ∧ qs.length = n.kids.length ∧ SlAt hdL 2 S' Z qs ∧ Mv S3 Z S' Z ∧ T = over T' [(1, ptr b1), (4, .one (iv (j : Nat)))]) n.kids.length ?_ ?_
  · exact ⟨_, 0, n.kids, by omega, rfl, rfl, hZ3, .refl _ _, holds.over ⟨rfl, rfl, trivial⟩⟩
  rintro m T S9 ⟨T', j, qs, hj, rfl, hq, hs, mv, rfl⟩
  have kb := (mv.box b1 _ k3 z1).1
  repeat (first | refine LOps.valH (LVal.lenAt hD rfl rfl hs rfl rfl) ?_ | refine LOps.nil ?_ | refine andThen_normal ?_ | refine andThen_exit ?_ | refine andThen_ret ?_ | refine inBlock_normal ?_ | refine inBlock_ret ?_ | refine inBlock_here ?_ | refine inBlock_out rfl ?_ | refine LWp.seq ?_ | refine LWp.region ?_ | refine LWp.block ?_ | refine LWp.exit ?_ | refine LWp.ret ?_ | refine LWp.skip ?_ | refine LOps.valA ?_ | refine LOps.outA ?_ | refine LOps.whenA ?_ | refine LOps.pickA ?_ | refine LOps.storeA ?_)
  refine LWp.cond rfl (fun h => ?_) (fun h => ?_)
  · have hlt : j < qs.length := by
      have h : decide ((j : Int) < (qs.length : Int)) = true := h
      rw [decide_eq_true_iff] at h; omega
    obtain ⟨r, c, rest, e, hrow⟩ := hs.row_of (by omega)
    have hbr := hrow.box
    have hlen := hrow.len hdL_len
    have hcap := hrow.cap
    obtain ⟨e1, e2⟩ := SlAt.setAt hdL_len hrow hlt ⟨99, 99⟩
    rw [e] at mv kb
    have hoff : (0 + ((j : Nat) : Int).toNat * ti26.size) = j * 2 := by rw [Nat.zero_add, Int.toNat_natCast]; rfl
    repeat (first | refine LOps.valH (LVal.to (LVal.load hD rfl rfl kb rfl rfl) (r' := .one (rsl r 0 qs.length c)) (by first | rfl | (rw [e]; rfl))) ?_ | refine LOps.valH (LVal.indexR hD rfl rfl rfl rfl rfl rfl (by omega) (by omega)) ?_ | refine LOps.val (r := .agg (hdL ⟨99, 99⟩)) (LVal.to (LVal.build hD rfl rfl rfl rfl rfl rfl rfl) rfl) rfl rfl rfl ?_ | refine LOps.nil ?_ | refine andThen_normal ?_ | refine andThen_exit ?_ | refine andThen_ret ?_ | refine inBlock_normal ?_ | refine inBlock_ret ?_ | refine inBlock_here ?_ | refine inBlock_out rfl ?_ | refine LWp.seq ?_ | refine LWp.region ?_ | refine LWp.block ?_ | refine LWp.exit ?_ | refine LWp.ret ?_ | refine LWp.skip ?_ | refine LOps.valA ?_ | refine LOps.outA ?_ | refine LOps.whenA ?_ | refine LOps.pickA ?_)
    refine LOps.do0 (LDo.store hD rfl rfl hbr rfl rfl rfl (by
      rw [Nat.ble_eq]
      show (0 + ((j : Nat) : Int).toNat * ti26.size) + 2 ≤ _
      rw [hoff, hlen]; omega)) rfl rfl ?_
    rintro _ _ ⟨rfl, rfl⟩
    refine LOps.gen (fun S' => S' = S9.setBox r (cellsR hdL (qs.set j ⟨99, 99⟩) ++ rest)) (by exact congrArg (S9.setBox r) ((congrArg (fun q => splice (cellsR hdL qs ++ rest) q (hdL ⟨99, 99⟩)) hoff).trans e1)) ?_
    rintro S8 hS8
    subst hS8
    repeat (first | refine LOps.nil ?_ | refine andThen_normal ?_ | refine andThen_exit ?_ | refine andThen_ret ?_ | refine inBlock_normal ?_ | refine inBlock_ret ?_ | refine inBlock_here ?_ | refine inBlock_out rfl ?_ | refine LWp.seq ?_ | refine LWp.region ?_ | refine LWp.block ?_ | refine LWp.exit ?_ | refine LWp.ret ?_ | refine LWp.skip ?_ | refine LOps.valA ?_ | refine LOps.outA ?_ | refine LOps.whenA ?_ | refine LOps.pickA ?_ | refine LOps.storeA ?_)
    exact ⟨n.kids.length - (j + 1), by omega, _, j + 1, qs.set j ⟨99, 99⟩, by omega, rfl, by rw [List.length_set]; exact hq, by rw [e]; exact e2, by rw [e]; exact mv.trans .set, holds.over ⟨rfl, rfl, trivial⟩⟩
  repeat (first | refine LOps.nil ?_ | refine andThen_normal ?_ | refine andThen_exit ?_ | refine andThen_ret ?_ | refine inBlock_normal ?_ | refine inBlock_ret ?_ | refine inBlock_here ?_ | refine inBlock_out rfl ?_ | refine LWp.seq ?_ | refine LWp.region ?_ | refine LWp.block ?_ | refine LWp.exit ?_ | refine LWp.ret ?_ | refine LWp.skip ?_ | refine LOps.valA ?_ | refine LOps.outA ?_ | refine LOps.whenA ?_ | refine LOps.pickA ?_ | refine LOps.storeA ?_)
  refine ⟨_, LRes.none rfl, fun b cs hb h1 h2 h3 => ?_, fun b x hb => ?_, fun b x hb => ?_, ?_⟩
  · exact (mv.box b cs (m2.box b cs (m1.box b cs (le1.box b cs hb) h1).1 h2).1 h3).1
  · exact mv.row b x (m2.row b x (m1.row b x (le1.row b x hb)))
  · exact mv.obj b x (m2.obj b x (m1.obj b x (le1.obj b x hb)))
  · exact Nat.le_trans le1.top (Nat.le_trans m1.top (Nat.le_trans m2.top mv.top))
end Go.Proofs.Ytjcpcgneghanfaa.LF
