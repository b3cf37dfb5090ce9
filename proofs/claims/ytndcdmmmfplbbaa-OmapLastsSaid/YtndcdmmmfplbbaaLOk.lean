/- The laws' words: what is too great; wakes; what the arguments are. -/
import Derived.Test.YtndcdmmmfplbbaaLOf
import Derived.Test.YtndcdmmmfplbbaaLOi
set_option linter.unusedVariables false
set_option linter.unusedSimpArgs false
namespace Go.Proofs.Ytndcdmmmfplbbaa.LF
open Go.RowKit
set_option linter.unusedVariables false

theorem typed_wr {l : List LV} (h : Typed D 46 l) : ∃ x : Wr, l = wrL x := by
  obtain ⟨h1, h2⟩ := typed_struct rfl rfl h
  obtain ⟨a, b, c, rfl⟩ : ∃ a b c, l = [a, b, c] := by
    match l, h1 with
    | [a, b, c], _ => exact ⟨a, b, c, rfl⟩
  obtain ⟨x, e1, _⟩ := typed_str rfl rfl (h2 0 _ _ rfl rfl)
  obtain ⟨y, e2, _⟩ := typed_str rfl rfl (h2 1 _ _ rfl rfl)
  obtain ⟨z, e3⟩ := typed_bool rfl rfl (h2 2 _ _ rfl rfl)
  cases e1; cases e2; cases e3
  exact ⟨⟨x, y, z⟩, rfl⟩
theorem typed_ws {l : List LV} (h : Typed D 37 l) : ∃ ws : List Wr, l = [.sl .sh (ws.map wrL)] := by
  obtain ⟨es, rfl, h2, _⟩ := typed_slice rfl rfl rfl h
  obtain ⟨ws, rfl⟩ := typed_all h2 fun c hc => typed_wr hc
  exact ⟨ws, rfl⟩
theorem typed_pr {l : List LV} (h : Typed D 50 l) : ∃ x : Pr, l = prL x := by
  obtain ⟨h1, h2⟩ := typed_struct rfl rfl h
  obtain ⟨a, b, rfl⟩ : ∃ a b, l = [a, b] := by
    match l, h1 with
    | [a, b], _ => exact ⟨a, b, rfl⟩
  obtain ⟨x, e1, _⟩ := typed_str rfl rfl (h2 0 _ _ rfl rfl)
  obtain ⟨y, e2, _⟩ := typed_str rfl rfl (h2 1 _ _ rfl rfl)
  cases e1; cases e2
  exact ⟨⟨x, y⟩, rfl⟩
theorem typed_prs {l : List LV} (h : Typed D 22 l) : ∃ ps : List Pr, l = [.sl .sh (ps.map prL)] := by
  obtain ⟨es, rfl, h2, _⟩ := typed_slice rfl rfl rfl h
  obtain ⟨ws, rfl⟩ := typed_all h2 fun c hc => typed_pr hc
  exact ⟨ws, rfl⟩
theorem typed_op {l : List LV} (h : Typed D 39 l) : ∃ x : OpV, l = opL x := by
  obtain ⟨h1, h2⟩ := typed_struct rfl rfl h
  obtain ⟨a, b, c, d, e, f, g, rfl⟩ : ∃ a b c d e f g, l = [a, b, c, d, e, f, g] := by
    match l, h1 with
    | [a, b, c, d, e, f, g], _ => exact ⟨a, b, c, d, e, f, g, rfl⟩
  obtain ⟨x1, e1, _⟩ := typed_int rfl rfl (h2 0 _ _ rfl rfl)
  obtain ⟨x4, e4, _⟩ := typed_str rfl rfl (h2 1 _ _ rfl rfl)
  obtain ⟨x5, e5, _⟩ := typed_str rfl rfl (h2 2 _ _ rfl rfl)
  obtain ⟨x6, e6, _⟩ := typed_str rfl rfl (h2 3 _ _ rfl rfl)
  obtain ⟨x7, e7⟩ := typed_bool rfl rfl (h2 4 _ _ rfl rfl)
  obtain ⟨x8, e8⟩ := typed_bool rfl rfl (h2 5 _ _ rfl rfl)
  obtain ⟨x9, e9⟩ := typed_ws (h2 6 _ _ rfl rfl)
  cases e1; cases e4; cases e5; cases e6; cases e7; cases e8; cases e9
  exact ⟨⟨x1, x4, x5, x6, x7, x8, x9⟩, rfl⟩
theorem typed_ops {l : List LV} (h : Typed D 23 l) : ∃ ps : List OpV, l = [.sl .sh (ps.map opL)] := by
  obtain ⟨es, rfl, h2, _⟩ := typed_slice rfl rfl rfl h
  obtain ⟨ws, rfl⟩ := typed_all h2 fun c hc => typed_op hc
  exact ⟨ws, rfl⟩
theorem typed_key {l : List LV} (h : Typed D 9 l) : ∃ s, l = [sv s] := by
  obtain ⟨x, e1, _⟩ := typed_str rfl rfl h
  exact ⟨x, e1⟩

def bigW (w : Wr) : Bool := decide ((w.key.size : Int) > 500) || decide ((w.val.size : Int) > 500)
def bigP (p : Pr) : Bool := decide ((p.key.size : Int) > 500) || decide ((p.val.size : Int) > 500)
def greatO (o : OpV) : Bool := (((decide ((o.key.size : Int) > 500) || decide ((o.val.size : Int) > 500)) || decide ((o.old.size : Int) > 500)) || decide ((o.writes.length : Int) > 40)) || o.writes.any bigW
def greatS (l : List Pr) (ops : List OpV) : Bool := ((decide ((l.length : Int) > 100) || decide ((ops.length : Int) > 100)) || l.any bigP) || ops.any greatO

theorem any_of {α : Type} {p : α → Bool} {l : List α} (h : ∀ (i : Nat) (hi : i < l.length), p l[i] = false) : l.any p = false := by
  rw [List.any_eq_false]
  intro x hx
  obtain ⟨i, hi, rfl⟩ := List.getElem_of_mem hx
  rw [h i hi]; decide
theorem any_at {α : Type} {p : α → Bool} {l : List α} {i : Nat} (hi : i < l.length) (h : p l[i] = true) : l.any p = true := List.any_eq_true.2 ⟨_, List.getElem_mem hi, h⟩

set_option maxHeartbeats 4000000 in
theorem greatO_F {G : Ctx} (hP : G.P = Try.prog) (o : OpV) : LFun G 21 [.agg (opL o)] (.one (bv (greatO o))) := LFun.of fun S => by
  have hD : TabOK G.P D := by rw [hP]; exact hD0
  have hml : (o.writes.map wrL).length = o.writes.length := List.length_map ..
  refine LCalls.enter (fn := Try.f21) (by rw [hP]; exact Try.func21) rfl rfl ?_
  repeat (first | refine LOps.nil ?_ | refine andThen_normal ?_ | refine andThen_exit ?_ | refine andThen_ret ?_ | refine inBlock_normal ?_ | refine inBlock_ret ?_ | refine inBlock_here ?_ | refine inBlock_out rfl ?_ | refine LWp.seq ?_ | refine LWp.region ?_ | refine LWp.block ?_ | refine LWp.exit ?_ | refine LWp.ret ?_ | refine LWp.skip ?_ | refine LOps.valA ?_ | refine LOps.outA ?_ | refine LOps.whenA ?_ | refine LOps.pickA ?_ | refine LOps.storeA ?_)
  have hle := LS.le.refl S
  refine LOps.do (LDo.box rfl rfl) rfl rfl rfl ?_
  rintro _ _ ⟨b1, hb1, rfl, rfl⟩
  have s1 := hle.none hb1
  refine LOps.gen (fun S' => S.le S' ∧ S'.box b1 = some (opL o)) ⟨hle.newBox hb1 _, box_new _ _ _⟩ ?_
  clear hle hb1 
  rintro S1 ⟨hle, k1⟩
  repeat (first | refine LOps.nil ?_ | refine andThen_normal ?_ | refine andThen_exit ?_ | refine andThen_ret ?_ | refine inBlock_normal ?_ | refine inBlock_ret ?_ | refine inBlock_here ?_ | refine inBlock_out rfl ?_ | refine LWp.seq ?_ | refine LWp.region ?_ | refine LWp.block ?_ | refine LWp.exit ?_ | refine LWp.ret ?_ | refine LWp.skip ?_ | refine LOps.valA ?_ | refine LOps.outA ?_ | refine LOps.whenA ?_ | refine LOps.pickA ?_ | refine LOps.storeA ?_)
  refine LWp.cond rfl (fun h => ?_) (fun h => ?_)
  · have h : (((decide ((o.key.size : Int) > 500) || decide ((o.val.size : Int) > 500)) || decide ((o.old.size : Int) > 500)) || decide (((o.writes.map wrL).length : Int) > 40)) = true := h
    rw [hml] at h
    repeat (first | refine LOps.nil ?_ | refine andThen_normal ?_ | refine andThen_exit ?_ | refine andThen_ret ?_ | refine inBlock_normal ?_ | refine inBlock_ret ?_ | refine inBlock_here ?_ | refine inBlock_out rfl ?_ | refine LWp.seq ?_ | refine LWp.region ?_ | refine LWp.block ?_ | refine LWp.exit ?_ | refine LWp.ret ?_ | refine LWp.skip ?_ | refine LOps.valA ?_ | refine LOps.outA ?_ | refine LOps.whenA ?_ | refine LOps.pickA ?_ | refine LOps.storeA ?_)
    exact ⟨_, LRes.one rfl, by rw [greatO, h]; rfl, hle⟩
  have h : (((decide ((o.key.size : Int) > 500) || decide ((o.val.size : Int) > 500)) || decide ((o.old.size : Int) > 500)) || decide (((o.writes.map wrL).length : Int) > 40)) = false := h
  rw [hml] at h
  have h40 : o.writes.length ≤ 40 := by
    rw [Bool.or_eq_false_iff, decide_eq_false_iff_not] at h
    omega
  repeat (first | refine LOps.nil ?_ | refine andThen_normal ?_ | refine andThen_exit ?_ | refine andThen_ret ?_ | refine inBlock_normal ?_ | refine inBlock_ret ?_ | refine inBlock_here ?_ | refine inBlock_out rfl ?_ | refine LWp.seq ?_ | refine LWp.region ?_ | refine LWp.block ?_ | refine LWp.exit ?_ | refine LWp.ret ?_ | refine LWp.skip ?_ | refine LOps.valA ?_ | refine LOps.outA ?_ | refine LOps.whenA ?_ | refine LOps.pickA ?_ | refine LOps.storeA ?_)
  refine LWp.loop (fun m T S' => S' = S1 ∧ ∃ (T' : Nat → TV) (j : Nat), j ≤ o.writes.length ∧ m = o.writes.length - j ∧ (∀ (i : Nat) (hi : i < j) (h1 : i < o.writes.length), bigW o.writes[i] = false) ∧ T = over T' [(1, ptr b1), (3, .one (iv (j : Nat)))]) o.writes.length ?_ ?_
  · exact ⟨rfl, _, 0, by omega, by omega, fun i hi => by omega, holds.over ⟨rfl, rfl, trivial⟩⟩
  rintro m T S' ⟨rfl, T', j, hj, rfl, hno, rfl⟩
  repeat (first | refine LOps.nil ?_ | refine andThen_normal ?_ | refine andThen_exit ?_ | refine andThen_ret ?_ | refine inBlock_normal ?_ | refine inBlock_ret ?_ | refine inBlock_here ?_ | refine inBlock_out rfl ?_ | refine LWp.seq ?_ | refine LWp.region ?_ | refine LWp.block ?_ | refine LWp.exit ?_ | refine LWp.ret ?_ | refine LWp.skip ?_ | refine LOps.valA ?_ | refine LOps.outA ?_ | refine LOps.whenA ?_ | refine LOps.pickA ?_ | refine LOps.storeA ?_)
  refine LWp.cond rfl (fun h => ?_) (fun h => ?_)
  · have hlt : j < o.writes.length := by simp at h; omega
    repeat (first | refine LOps.nil ?_ | refine andThen_normal ?_ | refine andThen_exit ?_ | refine andThen_ret ?_ | refine inBlock_normal ?_ | refine inBlock_ret ?_ | refine inBlock_here ?_ | refine inBlock_out rfl ?_ | refine LWp.seq ?_ | refine LWp.region ?_ | refine LWp.block ?_ | refine LWp.exit ?_ | refine LWp.ret ?_ | refine LWp.skip ?_ | refine LOps.valA ?_ | refine LOps.outA ?_ | refine LOps.whenA ?_ | refine LOps.pickA ?_ | refine LOps.storeA ?_)
    refine LWp.cond rfl (fun h2 => ?_) (fun h2 => ?_)
    · have h2 : bigW o.writes[j] = true := h2
      repeat (first | refine LOps.nil ?_ | refine andThen_normal ?_ | refine andThen_exit ?_ | refine andThen_ret ?_ | refine inBlock_normal ?_ | refine inBlock_ret ?_ | refine inBlock_here ?_ | refine inBlock_out rfl ?_ | refine LWp.seq ?_ | refine LWp.region ?_ | refine LWp.block ?_ | refine LWp.exit ?_ | refine LWp.ret ?_ | refine LWp.skip ?_ | refine LOps.valA ?_ | refine LOps.outA ?_ | refine LOps.whenA ?_ | refine LOps.pickA ?_ | refine LOps.storeA ?_)
      exact ⟨_, LRes.one rfl, by rw [greatO, any_at hlt h2, Bool.or_true]; rfl, hle⟩
    · have h2 : bigW o.writes[j] = false := h2
      repeat (first | refine LOps.nil ?_ | refine andThen_normal ?_ | refine andThen_exit ?_ | refine andThen_ret ?_ | refine inBlock_normal ?_ | refine inBlock_ret ?_ | refine inBlock_here ?_ | refine inBlock_out rfl ?_ | refine LWp.seq ?_ | refine LWp.region ?_ | refine LWp.block ?_ | refine LWp.exit ?_ | refine LWp.ret ?_ | refine LWp.skip ?_ | refine LOps.valA ?_ | refine LOps.outA ?_ | refine LOps.whenA ?_ | refine LOps.pickA ?_ | refine LOps.storeA ?_)
      refine ⟨o.writes.length - (j + 1), by omega, rfl, _, j + 1, by omega, rfl, fun i hi h1 => ?_, holds.over ⟨rfl, rfl, trivial⟩⟩
      rcases Nat.lt_or_ge i j with h3 | h3
      · exact hno i h3 h1
      · obtain rfl : i = j := by omega
        exact h2
  · have hge : j = o.writes.length := by simp at h; omega
    subst hge
    have e := any_of fun i hi => hno i hi hi
    repeat (first | refine LOps.nil ?_ | refine andThen_normal ?_ | refine andThen_exit ?_ | refine andThen_ret ?_ | refine inBlock_normal ?_ | refine inBlock_ret ?_ | refine inBlock_here ?_ | refine inBlock_out rfl ?_ | refine LWp.seq ?_ | refine LWp.region ?_ | refine LWp.block ?_ | refine LWp.exit ?_ | refine LWp.ret ?_ | refine LWp.skip ?_ | refine LOps.valA ?_ | refine LOps.outA ?_ | refine LOps.whenA ?_ | refine LOps.pickA ?_ | refine LOps.storeA ?_)
    refine ⟨_, LRes.one rfl, ?_, hle⟩
    rw [greatO, e, Bool.or_false]
    rename_i h0
    first | rw [h]; rfl | (rw [show _ = false from ‹(((decide ((o.key.size : Int) > 500) || decide ((o.val.size : Int) > 500)) || decide ((o.old.size : Int) > 500)) || decide ((o.writes.length : Int) > 40)) = false›]; rfl)

set_option maxHeartbeats 4000000 in
theorem great_F {G : Ctx} (hP : G.P = Try.prog) (l : List Pr) (ops : List OpV) : LFun G 9 [.one (.sl .sh (l.map prL)), .one (.sl .sh (ops.map opL))] (.one (bv (greatS l ops))) := LFun.of fun S => by
  have hD : TabOK G.P D := by rw [hP]; exact hD0
  have hml : (l.map prL).length = l.length := List.length_map ..
  have hmo : (ops.map opL).length = ops.length := List.length_map ..
  refine LCalls.enter (fn := Try.f9) (by rw [hP]; exact Try.func9) rfl rfl ?_
  repeat (first | refine LOps.nil ?_ | refine andThen_normal ?_ | refine andThen_exit ?_ | refine andThen_ret ?_ | refine inBlock_normal ?_ | refine inBlock_ret ?_ | refine inBlock_here ?_ | refine inBlock_out rfl ?_ | refine LWp.seq ?_ | refine LWp.region ?_ | refine LWp.block ?_ | refine LWp.exit ?_ | refine LWp.ret ?_ | refine LWp.skip ?_ | refine LOps.valA ?_ | refine LOps.outA ?_ | refine LOps.whenA ?_ | refine LOps.pickA ?_ | refine LOps.storeA ?_)
  refine LWp.cond rfl (fun h => ?_) (fun h => ?_)
  · have h : (decide (((l.map prL).length : Int) > 100) || decide (((ops.map opL).length : Int) > 100)) = true := h
    rw [hml, hmo] at h
    repeat (first | refine LOps.nil ?_ | refine andThen_normal ?_ | refine andThen_exit ?_ | refine andThen_ret ?_ | refine inBlock_normal ?_ | refine inBlock_ret ?_ | refine inBlock_here ?_ | refine inBlock_out rfl ?_ | refine LWp.seq ?_ | refine LWp.region ?_ | refine LWp.block ?_ | refine LWp.exit ?_ | refine LWp.ret ?_ | refine LWp.skip ?_ | refine LOps.valA ?_ | refine LOps.outA ?_ | refine LOps.whenA ?_ | refine LOps.pickA ?_ | refine LOps.storeA ?_)
    exact ⟨_, LRes.one rfl, by rw [greatS, h]; rfl, .refl _⟩
  have h0 : (decide (((l.map prL).length : Int) > 100) || decide (((ops.map opL).length : Int) > 100)) = false := h
  rw [hml, hmo] at h0
  have hb := h0
  rw [Bool.or_eq_false_iff, decide_eq_false_iff_not, decide_eq_false_iff_not] at hb
  clear h
  repeat (first | (refine LWp.seq (LWp.cut 3 (fun T' S' => S' = S ∧ l.any bigP = false ∧ ∃ T'', T' = over T'' [(0, .one (.sl .sh (l.map prL))), (1, .one (.sl .sh (ops.map opL)))]) rfl ?_ ?_); rotate_left) | refine LOps.nil ?_ | refine andThen_normal ?_ | refine andThen_exit ?_ | refine andThen_ret ?_ | refine inBlock_normal ?_ | refine inBlock_ret ?_ | refine inBlock_here ?_ | refine inBlock_out rfl ?_ | refine LWp.seq ?_ | refine LWp.region ?_ | refine LWp.block ?_ | refine LWp.exit ?_ | refine LWp.ret ?_ | refine LWp.skip ?_ | refine LOps.valA ?_ | refine LOps.outA ?_ | refine LOps.whenA ?_ | refine LOps.pickA ?_ | refine LOps.storeA ?_)
  rotate_left
  · repeat (first | refine LOps.nil ?_ | refine andThen_normal ?_ | refine andThen_exit ?_ | refine andThen_ret ?_ | refine inBlock_normal ?_ | refine inBlock_ret ?_ | refine inBlock_here ?_ | refine inBlock_out rfl ?_ | refine LWp.seq ?_ | refine LWp.region ?_ | refine LWp.block ?_ | refine LWp.exit ?_ | refine LWp.ret ?_ | refine LWp.skip ?_ | refine LOps.valA ?_ | refine LOps.outA ?_ | refine LOps.whenA ?_ | refine LOps.pickA ?_ | refine LOps.storeA ?_)
    refine LWp.loop (fun m T S' => S' = S ∧ ∃ (T' : Nat → TV) (j : Nat), j ≤ l.length ∧ m = l.length - j ∧ (∀ (i : Nat) (hi : i < j) (h1 : i < l.length), bigP l[i] = false) ∧ T = over T' [(0, .one (.sl .sh (l.map prL))), (1, .one (.sl .sh (ops.map opL))), (5, .one (iv (j : Nat)))]) l.length ?_ ?_
    · exact ⟨rfl, _, 0, by omega, by omega, fun i hi => by omega, holds.over ⟨rfl, rfl, rfl, trivial⟩⟩
    rintro m T S' ⟨rfl, T', j, hj, rfl, hno, rfl⟩
    repeat (first | refine LOps.nil ?_ | refine andThen_normal ?_ | refine andThen_exit ?_ | refine andThen_ret ?_ | refine inBlock_normal ?_ | refine inBlock_ret ?_ | refine inBlock_here ?_ | refine inBlock_out rfl ?_ | refine LWp.seq ?_ | refine LWp.region ?_ | refine LWp.block ?_ | refine LWp.exit ?_ | refine LWp.ret ?_ | refine LWp.skip ?_ | refine LOps.valA ?_ | refine LOps.outA ?_ | refine LOps.whenA ?_ | refine LOps.pickA ?_ | refine LOps.storeA ?_)
    refine LWp.cond rfl (fun h => ?_) (fun h => ?_)
    · have hlt : j < l.length := by simp at h; omega
      repeat (first | refine LOps.nil ?_ | refine andThen_normal ?_ | refine andThen_exit ?_ | refine andThen_ret ?_ | refine inBlock_normal ?_ | refine inBlock_ret ?_ | refine inBlock_here ?_ | refine inBlock_out rfl ?_ | refine LWp.seq ?_ | refine LWp.region ?_ | refine LWp.block ?_ | refine LWp.exit ?_ | refine LWp.ret ?_ | refine LWp.skip ?_ | refine LOps.valA ?_ | refine LOps.outA ?_ | refine LOps.whenA ?_ | refine LOps.pickA ?_ | refine LOps.storeA ?_)
      refine LWp.cond rfl (fun h2 => ?_) (fun h2 => ?_)
      · have h2 : bigP l[j] = true := h2
        repeat (first | refine LOps.nil ?_ | refine andThen_normal ?_ | refine andThen_exit ?_ | refine andThen_ret ?_ | refine inBlock_normal ?_ | refine inBlock_ret ?_ | refine inBlock_here ?_ | refine inBlock_out rfl ?_ | refine LWp.seq ?_ | refine LWp.region ?_ | refine LWp.block ?_ | refine LWp.exit ?_ | refine LWp.ret ?_ | refine LWp.skip ?_ | refine LOps.valA ?_ | refine LOps.outA ?_ | refine LOps.whenA ?_ | refine LOps.pickA ?_ | refine LOps.storeA ?_)
        exact ⟨_, LRes.one rfl, by rw [greatS, any_at hlt h2, Bool.or_true, Bool.true_or]; rfl, .refl _⟩
      · have h2 : bigP l[j] = false := h2
        repeat (first | refine LOps.nil ?_ | refine andThen_normal ?_ | refine andThen_exit ?_ | refine andThen_ret ?_ | refine inBlock_normal ?_ | refine inBlock_ret ?_ | refine inBlock_here ?_ | refine inBlock_out rfl ?_ | refine LWp.seq ?_ | refine LWp.region ?_ | refine LWp.block ?_ | refine LWp.exit ?_ | refine LWp.ret ?_ | refine LWp.skip ?_ | refine LOps.valA ?_ | refine LOps.outA ?_ | refine LOps.whenA ?_ | refine LOps.pickA ?_ | refine LOps.storeA ?_)
        refine ⟨l.length - (j + 1), by omega, rfl, _, j + 1, by omega, rfl, fun i hi h1 => ?_, holds.over ⟨rfl, rfl, rfl, trivial⟩⟩
        rcases Nat.lt_or_ge i j with h3 | h3
        · exact hno i h3 h1
        · obtain rfl : i = j := by omega
          exact h2
    · have hge : j = l.length := by simp at h; omega
      subst hge
      repeat (first | refine LOps.nil ?_ | refine andThen_normal ?_ | refine andThen_exit ?_ | refine andThen_ret ?_ | refine inBlock_normal ?_ | refine inBlock_ret ?_ | refine inBlock_here ?_ | refine inBlock_out rfl ?_ | refine LWp.seq ?_ | refine LWp.region ?_ | refine LWp.block ?_ | refine LWp.exit ?_ | refine LWp.ret ?_ | refine LWp.skip ?_ | refine LOps.valA ?_ | refine LOps.outA ?_ | refine LOps.whenA ?_ | refine LOps.pickA ?_ | refine LOps.storeA ?_)
      exact ⟨rfl, any_of fun i hi => hno i hi hi, _, holds.over ⟨rfl, rfl, trivial⟩⟩
  rintro _ S2 ⟨rfl, hany, T2, rfl⟩
  repeat (first | refine LOps.nil ?_ | refine andThen_normal ?_ | refine andThen_exit ?_ | refine andThen_ret ?_ | refine inBlock_normal ?_ | refine inBlock_ret ?_ | refine inBlock_here ?_ | refine inBlock_out rfl ?_ | refine LWp.seq ?_ | refine LWp.region ?_ | refine LWp.block ?_ | refine LWp.exit ?_ | refine LWp.ret ?_ | refine LWp.skip ?_ | refine LOps.valA ?_ | refine LOps.outA ?_ | refine LOps.whenA ?_ | refine LOps.pickA ?_ | refine LOps.storeA ?_)
  refine LWp.loop (fun m T S' => S' = S2 ∧ ∃ (T' : Nat → TV) (j : Nat), j ≤ ops.length ∧ m = ops.length - j ∧ (∀ (i : Nat) (hi : i < j) (h1 : i < ops.length), greatO ops[i] = false) ∧ T = over T' [(0, .one (.sl .sh (l.map prL))), (1, .one (.sl .sh (ops.map opL))), (6, .one (iv (j : Nat)))]) ops.length ?_ ?_
  · exact ⟨rfl, _, 0, by omega, by omega, fun i hi => by omega, holds.over ⟨rfl, rfl, rfl, trivial⟩⟩
  rintro m T S' ⟨rfl, T', j, hj, rfl, hno, rfl⟩
  repeat (first | refine LOps.nil ?_ | refine andThen_normal ?_ | refine andThen_exit ?_ | refine andThen_ret ?_ | refine inBlock_normal ?_ | refine inBlock_ret ?_ | refine inBlock_here ?_ | refine inBlock_out rfl ?_ | refine LWp.seq ?_ | refine LWp.region ?_ | refine LWp.block ?_ | refine LWp.exit ?_ | refine LWp.ret ?_ | refine LWp.skip ?_ | refine LOps.valA ?_ | refine LOps.outA ?_ | refine LOps.whenA ?_ | refine LOps.pickA ?_ | refine LOps.storeA ?_)
  refine LWp.cond rfl (fun h => ?_) (fun h => ?_)
  · have hlt : j < ops.length := by simp at h; omega
    have c1 := greatO_F hP ops[j]
    repeat (first | refine LOps.nil ?_ | refine andThen_normal ?_ | refine andThen_exit ?_ | refine andThen_ret ?_ | refine inBlock_normal ?_ | refine inBlock_ret ?_ | refine inBlock_here ?_ | refine inBlock_out rfl ?_ | refine LWp.seq ?_ | refine LWp.region ?_ | refine LWp.block ?_ | refine LWp.exit ?_ | refine LWp.ret ?_ | refine LWp.skip ?_ | refine LOps.val (LVal.call rfl rfl (by rw [hP]; exact Try.func21) rfl (by decide) (c1)) rfl rfl rfl ?_ | refine LOps.whenC (LVal.call rfl rfl (by rw [hP]; exact Try.func21) rfl (by decide) (c1)) ?_ | refine LOps.valA ?_ | refine LOps.outA ?_ | refine LOps.whenA ?_ | refine LOps.pickA ?_ | refine LOps.storeA ?_)
    refine LWp.cond rfl (fun h2 => ?_) (fun h2 => ?_)
    · have h2 : greatO ops[j] = true := h2
      repeat (first | refine LOps.nil ?_ | refine andThen_normal ?_ | refine andThen_exit ?_ | refine andThen_ret ?_ | refine inBlock_normal ?_ | refine inBlock_ret ?_ | refine inBlock_here ?_ | refine inBlock_out rfl ?_ | refine LWp.seq ?_ | refine LWp.region ?_ | refine LWp.block ?_ | refine LWp.exit ?_ | refine LWp.ret ?_ | refine LWp.skip ?_ | refine LOps.valA ?_ | refine LOps.outA ?_ | refine LOps.whenA ?_ | refine LOps.pickA ?_ | refine LOps.storeA ?_)
      exact ⟨_, LRes.one rfl, by rw [greatS, any_at hlt h2, Bool.or_true]; rfl, .refl _⟩
    · have h2 : greatO ops[j] = false := h2
      repeat (first | refine LOps.nil ?_ | refine andThen_normal ?_ | refine andThen_exit ?_ | refine andThen_ret ?_ | refine inBlock_normal ?_ | refine inBlock_ret ?_ | refine inBlock_here ?_ | refine inBlock_out rfl ?_ | refine LWp.seq ?_ | refine LWp.region ?_ | refine LWp.block ?_ | refine LWp.exit ?_ | refine LWp.ret ?_ | refine LWp.skip ?_ | refine LOps.valA ?_ | refine LOps.outA ?_ | refine LOps.whenA ?_ | refine LOps.pickA ?_ | refine LOps.storeA ?_)
      refine ⟨ops.length - (j + 1), by omega, rfl, _, j + 1, by omega, rfl, fun i hi h1 => ?_, holds.over ⟨rfl, rfl, rfl, trivial⟩⟩
      rcases Nat.lt_or_ge i j with h3 | h3
      · exact hno i h3 h1
      · obtain rfl : i = j := by omega
        exact h2
  · have hge : j = ops.length := by simp at h; omega
    subst hge
    repeat (first | refine LOps.nil ?_ | refine andThen_normal ?_ | refine andThen_exit ?_ | refine andThen_ret ?_ | refine inBlock_normal ?_ | refine inBlock_ret ?_ | refine inBlock_here ?_ | refine inBlock_out rfl ?_ | refine LWp.seq ?_ | refine LWp.region ?_ | refine LWp.block ?_ | refine LWp.exit ?_ | refine LWp.ret ?_ | refine LWp.skip ?_ | refine LOps.valA ?_ | refine LOps.outA ?_ | refine LOps.whenA ?_ | refine LOps.pickA ?_ | refine LOps.storeA ?_)
    exact ⟨_, LRes.one rfl, by rw [greatS, h0, hany, any_of fun i hi => hno i hi hi]; rfl, .refl _⟩

/-- What is not too great. -/
structure Fine (l : List Pr) (ops : List OpV) : Prop where
  nl : l.length ≤ 100
  no : ops.length ≤ 100
  ps : ∀ p ∈ l, p.key.size ≤ 500 ∧ p.val.size ≤ 500
  os : ∀ o ∈ ops, greatO o = false
theorem fine_of {l : List Pr} {ops : List OpV} (h : greatS l ops = false) : Fine l ops := by
  unfold greatS at h
  rw [Bool.or_eq_false_iff, Bool.or_eq_false_iff, Bool.or_eq_false_iff, decide_eq_false_iff_not, decide_eq_false_iff_not, List.any_eq_false, List.any_eq_false] at h
  obtain ⟨⟨⟨h1, h2⟩, h3⟩, h4⟩ := h
  refine ⟨by omega, by omega, fun p hp => ?_, fun o ho => by simpa using h4 o ho⟩
  have := h3 p hp
  simp only [bigP, Bool.or_eq_true, decide_eq_true_eq, not_or] at this
  omega
structure FineO (o : OpV) : Prop where
  key : o.key.size ≤ 500
  val : o.val.size ≤ 500
  old : o.old.size ≤ 500
  n : o.writes.length ≤ 40
  ws : ∀ w ∈ o.writes, w.key.size ≤ 500 ∧ w.val.size ≤ 500
theorem fineO_of {o : OpV} (h : greatO o = false) : FineO o := by
  unfold greatO at h
  rw [Bool.or_eq_false_iff, Bool.or_eq_false_iff, Bool.or_eq_false_iff, Bool.or_eq_false_iff, decide_eq_false_iff_not, decide_eq_false_iff_not, decide_eq_false_iff_not, decide_eq_false_iff_not, List.any_eq_false] at h
  obtain ⟨⟨⟨⟨h1, h2⟩, h3⟩, h4⟩, h5⟩ := h
  refine ⟨by omega, by omega, by omega, by omega, fun w hw => ?_⟩
  have := h5 w hw
  simp only [bigW, Bool.or_eq_true, decide_eq_true_eq, not_or] at this
  omega

/-- A map that is new over a memory. -/
structure NewO (S0 S : LS) (b : Nat) (X : LV) : Prop where
  le : S0.le S
  nb : S0.box b = none
  nx : ∀ c, blockOf X = some c → S0.box c = none
theorem NewO.mv {S0 S S' : LS} {b : Nat} {X X' : LV} (h : NewO S0 S b X) (mv : MvO S b X S' X') : NewO S0 S' b X' := by
  have key : ∀ c cs, S0.box c = some cs → S'.box c = some cs ∧ blockOf X' ≠ some c := fun c cs hc =>
    mv.box c cs (h.le.box c cs hc) (fun e => by rw [e, h.nb] at hc; cases hc) (fun e => by rw [h.nx c e] at hc; cases hc)
  refine ⟨⟨fun c cs hc => (key c cs hc).1, fun c x hc => mv.row c x (h.le.row c x hc), fun c x hc => mv.obj c x (h.le.obj c x hc), Nat.le_trans h.le.top mv.top⟩, h.nb, fun c hc => ?_⟩
  cases hq : S0.box c with
  | none => rfl
  | some cs => exact absurd hc (key c cs hq).2
theorem NewO.put {S0 S : LS} {b c : Nat} {X : LV} {l : List Pr} (h : NewO S0 S b X) (m : OM S b X l) (hf : S.fresh c) (z cs : List LV) :
    ∃ S1, S0.le S1 ∧ S1.box c = some cs ∧ NewO S1 ((S.newBox c z).setBox c cs) b X ∧ OM ((S.newBox c z).setBox c cs) b X l := by
  have hle := (LS.le.newBox (.refl S) hf z).setBox hf.box cs
  have h0 : S0.box c = none := h.le.none hf
  have hS0 : S0.le { S0 with box := fun x => bif Nat.beq x c then some cs else S0.box x } := ⟨fun x y hx => (box_set_ne S0 cs (fun e => by rw [e, h0] at hx; cases hx)).trans hx, fun _ _ h => h, fun _ _ h => h, Nat.le_refl _⟩
  obtain ⟨e1, e2⟩ := m.noBlock hf.box
  refine ⟨S0.setBox c cs, hS0, box_set _ _ _, ⟨⟨fun x y hx => ?_, fun x y hx => hle.row x y (h.le.row x y hx), fun x y hx => hle.obj x y (h.le.obj x y hx), Nat.le_trans h.le.top hle.top⟩, (box_set_ne S0 cs e1).trans h.nb, fun x hx => ?_⟩, m.le hle⟩
  · by_cases e : x = c
    · subst e
      rw [box_set] at hx ⊢; exact hx
    · rw [box_set_ne S0 cs e] at hx
      exact hle.box x y (h.le.box x y hx)
  · rw [box_set_ne S0 cs (fun e => e2 (by rw [← e]; exact hx))]; exact h.nx x hx
theorem NewO.le2 {S0 S S' : LS} {b : Nat} {X : LV} (h : NewO S0 S b X) (k : S.le S') : NewO S0 S' b X := ⟨h.le.trans k, h.nb, h.nx⟩

abbrev bB : ByteArray := { data := #[98] }
abbrev bA : ByteArray := { data := #[97] }
abbrev b1' : ByteArray := { data := #[49] }
abbrev b2' : ByteArray := { data := #[50] }
abbrev wo1 : OpV := ⟨2, bB, b1', noBytes, false, false, []⟩
abbrev wo2 : OpV := ⟨2, bB, b2', noBytes, false, false, []⟩
abbrev wo3 : OpV := ⟨5, bA, noBytes, noBytes, false, false, []⟩
abbrev wo4 : OpV := ⟨5, bB, noBytes, noBytes, false, true, []⟩
theorem w1 : doM [] wo1 = [⟨bB, b1'⟩] ∧ doA [] wo1 = noAns := by decide +kernel
theorem w2 : doM [⟨bB, b1'⟩] wo2 = [⟨bB, b2'⟩] ∧ doA [⟨bB, b1'⟩] wo2 = ⟨0, true, noBytes, b1'⟩ := by decide +kernel
theorem w3 : doM [⟨bB, b2'⟩] wo3 = [⟨bB, b2'⟩] ∧ doA [⟨bB, b2'⟩] wo3 = ⟨0, true, bB, b2'⟩ := by decide +kernel
theorem w4 : doM [⟨bB, b2'⟩] wo4 = [⟨bB, b2'⟩] ∧ doA [⟨bB, b2'⟩] wo4 = noAns := by decide +kernel

set_option maxHeartbeats 4000000 in
theorem wakes_F {G : Ctx} (hP : G.P = Try.prog) : LFun G 10 [] (.one (bv true)) := LFun.of fun S => by
  have hD : TabOK G.P D := by rw [hP]; exact hD0
  have ea : EqTy G.P D 35 := by rw [hP]; exact ⟨by kernel_rfl, by kernel_rfl⟩
  refine LCalls.enter (fn := Try.f10) (by rw [hP]; exact Try.func10) rfl rfl ?_
  repeat (first | refine LOps.nil ?_ | refine andThen_normal ?_ | refine andThen_exit ?_ | refine andThen_ret ?_ | refine inBlock_normal ?_ | refine inBlock_ret ?_ | refine inBlock_here ?_ | refine inBlock_out rfl ?_ | refine LWp.seq ?_ | refine LWp.region ?_ | refine LWp.block ?_ | refine LWp.exit ?_ | refine LWp.ret ?_ | refine LWp.skip ?_ | refine LOps.valA ?_ | refine LOps.outA ?_ | refine LOps.whenA ?_ | refine LOps.pickA ?_ | refine LOps.storeA ?_)
  refine LOps.do (LDo.callX (new_L hP .nil [] (by decide) S) (by rw [hP]; exact Try.func11)) rfl rfl rfl ?_
  rintro _ S1 ⟨b, X, rfl, m, h1, h2, h3⟩
  have nw : NewO S S1 b X := ⟨h1, h2, h3⟩
  have hle := LS.le.refl S
  clear h1 h2 h3
  repeat (first | refine LOps.nil ?_ | refine andThen_normal ?_ | refine andThen_exit ?_ | refine andThen_ret ?_ | refine inBlock_normal ?_ | refine inBlock_ret ?_ | refine inBlock_here ?_ | refine inBlock_out rfl ?_ | refine LWp.seq ?_ | refine LWp.region ?_ | refine LWp.block ?_ | refine LWp.exit ?_ | refine LWp.ret ?_ | refine LWp.skip ?_ | refine LOps.valA ?_ | refine LOps.outA ?_ | refine LOps.whenA ?_ | refine LOps.pickA ?_ | refine LOps.storeA ?_)
  refine LOps.do (LDo.callF (do_L hP (newP []) (by decide) (wo1) b X _ m) (by rw [hP]; exact Try.func16)) rfl rfl rfl ?_
  rintro _ S2 ⟨rfl, X, m, mv2⟩
  replace nw := nw.mv mv2
  clear mv2
  rw [show doA (newP []) wo1 = noAns from w1.2]
  rw [show doM (newP []) wo1 = [⟨bB, b1'⟩] from w1.1] at m
  refine LOps.do (LDo.alloc hD rfl rfl rfl) rfl rfl rfl ?_
  rintro _ _ ⟨b2, hb2, rfl, rfl⟩
  refine LOps.storeA (b := b2) (off := 0) (cs := ansL noAns) (l := ansL noAns) ?_
  obtain ⟨S1, h01, k2, nw1, m1⟩ := nw.put m hb2 (ansL noAns) (ansL noAns)
  refine LOps.gen (fun S' => NewO S1 S' b X ∧ OM S' b X _) ⟨nw1, m1⟩ ?_
  replace hle := hle.trans h01
  clear nw m nw1 m1 h01 hb2
  rintro S2 ⟨nw, m⟩
  repeat (first | refine LOps.nil ?_ | refine andThen_normal ?_ | refine andThen_exit ?_ | refine andThen_ret ?_ | refine inBlock_normal ?_ | refine inBlock_ret ?_ | refine inBlock_here ?_ | refine inBlock_out rfl ?_ | refine LWp.seq ?_ | refine LWp.region ?_ | refine LWp.block ?_ | refine LWp.exit ?_ | refine LWp.ret ?_ | refine LWp.skip ?_ | refine LOps.valA ?_ | refine LOps.outA ?_ | refine LOps.whenA ?_ | refine LOps.pickA ?_ | refine LOps.storeA ?_)
  refine LOps.do (LDo.callF (do_L hP ([⟨bB, b1'⟩]) (by decide) (wo2) b X _ m) (by rw [hP]; exact Try.func16)) rfl rfl rfl ?_
  rintro _ S2 ⟨rfl, X, m, mv2⟩
  replace nw := nw.mv mv2
  clear mv2
  rw [w2.2]
  rw [w2.1] at m
  refine LOps.do (LDo.alloc hD rfl rfl rfl) rfl rfl rfl ?_
  rintro _ _ ⟨b3, hb3, rfl, rfl⟩
  refine LOps.storeA (b := b3) (off := 0) (cs := ansL noAns) (l := ansL ⟨0, true, noBytes, b1'⟩) ?_
  have n2_3 := fresh_ne hb3 (nw.le.box _ _ k2)
  obtain ⟨S1, h01, k3, nw1, m1⟩ := nw.put m hb3 (ansL noAns) (ansL ⟨0, true, noBytes, b1'⟩)
  refine LOps.gen (fun S' => NewO S1 S' b X ∧ OM S' b X _) ⟨nw1, m1⟩ ?_
  replace k2 := h01.box _ _ k2
  replace hle := hle.trans h01
  clear nw m nw1 m1 h01 hb3
  rintro S2 ⟨nw, m⟩
  repeat (first | refine LOps.nil ?_ | refine andThen_normal ?_ | refine andThen_exit ?_ | refine andThen_ret ?_ | refine inBlock_normal ?_ | refine inBlock_ret ?_ | refine inBlock_here ?_ | refine inBlock_out rfl ?_ | refine LWp.seq ?_ | refine LWp.region ?_ | refine LWp.block ?_ | refine LWp.exit ?_ | refine LWp.ret ?_ | refine LWp.skip ?_ | refine LOps.valA ?_ | refine LOps.outA ?_ | refine LOps.whenA ?_ | refine LOps.pickA ?_ | refine LOps.storeA ?_)
  refine LOps.do (LDo.callF (do_L hP ([⟨bB, b2'⟩]) (by decide) (wo3) b X _ m) (by rw [hP]; exact Try.func16)) rfl rfl rfl ?_
  rintro _ S2 ⟨rfl, X, m, mv2⟩
  replace nw := nw.mv mv2
  clear mv2
  rw [w3.2]
  rw [w3.1] at m
  refine LOps.do (LDo.alloc hD rfl rfl rfl) rfl rfl rfl ?_
  rintro _ _ ⟨b4, hb4, rfl, rfl⟩
  refine LOps.storeA (b := b4) (off := 0) (cs := ansL noAns) (l := ansL ⟨0, true, bB, b2'⟩) ?_
  have n2_4 := fresh_ne hb4 (nw.le.box _ _ k2)
  have n3_4 := fresh_ne hb4 (nw.le.box _ _ k3)
  obtain ⟨S1, h01, k4, nw1, m1⟩ := nw.put m hb4 (ansL noAns) (ansL ⟨0, true, bB, b2'⟩)
  refine LOps.gen (fun S' => NewO S1 S' b X ∧ OM S' b X _) ⟨nw1, m1⟩ ?_
  replace k2 := h01.box _ _ k2
  replace k3 := h01.box _ _ k3
  replace hle := hle.trans h01
  clear nw m nw1 m1 h01 hb4
  rintro S2 ⟨nw, m⟩
  repeat (first | refine LOps.nil ?_ | refine andThen_normal ?_ | refine andThen_exit ?_ | refine andThen_ret ?_ | refine inBlock_normal ?_ | refine inBlock_ret ?_ | refine inBlock_here ?_ | refine inBlock_out rfl ?_ | refine LWp.seq ?_ | refine LWp.region ?_ | refine LWp.block ?_ | refine LWp.exit ?_ | refine LWp.ret ?_ | refine LWp.skip ?_ | refine LOps.valA ?_ | refine LOps.outA ?_ | refine LOps.whenA ?_ | refine LOps.pickA ?_ | refine LOps.storeA ?_)
  refine LOps.do (LDo.callF (do_L hP ([⟨bB, b2'⟩]) (by decide) (wo4) b X _ m) (by rw [hP]; exact Try.func16)) rfl rfl rfl ?_
  rintro _ S2 ⟨rfl, X, m, mv2⟩
  replace nw := nw.mv mv2
  clear mv2
  rw [w4.2]
  rw [w4.1] at m
  refine LOps.do (LDo.alloc hD rfl rfl rfl) rfl rfl rfl ?_
  rintro _ _ ⟨b5, hb5, rfl, rfl⟩
  refine LOps.storeA (b := b5) (off := 0) (cs := ansL noAns) (l := ansL noAns) ?_
  have n2_5 := fresh_ne hb5 (nw.le.box _ _ k2)
  have n3_5 := fresh_ne hb5 (nw.le.box _ _ k3)
  have n4_5 := fresh_ne hb5 (nw.le.box _ _ k4)
  obtain ⟨S1, h01, k5, nw1, m1⟩ := nw.put m hb5 (ansL noAns) (ansL noAns)
  refine LOps.gen (fun S' => NewO S1 S' b X ∧ OM S' b X _) ⟨nw1, m1⟩ ?_
  replace k2 := h01.box _ _ k2
  replace k3 := h01.box _ _ k3
  replace k4 := h01.box _ _ k4
  replace hle := hle.trans h01
  clear nw m nw1 m1 h01 hb5
  rintro S2 ⟨nw, m⟩
  have q2 := nw.le.box _ _ k2
  have q3 := nw.le.box _ _ k3
  have q4 := nw.le.box _ _ k4
  have q5 := nw.le.box _ _ k5
  repeat (first | refine LOps.valW ?_ | refine LOps.do (LDo.callX (len_L hP _ b X _ m) (by rw [hP]; exact Try.func20)) rfl rfl rfl ?_ | refine LOps.nil ?_ | refine andThen_normal ?_ | refine andThen_exit ?_ | refine andThen_ret ?_ | refine inBlock_normal ?_ | refine inBlock_ret ?_ | refine inBlock_here ?_ | refine inBlock_out rfl ?_ | refine LWp.seq ?_ | refine LWp.region ?_ | refine LWp.block ?_ | refine LWp.exit ?_ | refine LWp.ret ?_ | refine LWp.skip ?_ | refine LOps.valA ?_ | refine LOps.outA ?_ | refine LOps.whenA ?_ | refine LOps.pickA ?_ | refine LOps.storeA ?_)
  rintro _ S9 ⟨rfl, hS9⟩
  subst hS9
  repeat (first | refine LOps.valW ?_ | refine LOps.nil ?_ | refine andThen_normal ?_ | refine andThen_exit ?_ | refine andThen_ret ?_ | refine inBlock_normal ?_ | refine inBlock_ret ?_ | refine inBlock_here ?_ | refine inBlock_out rfl ?_ | refine LWp.seq ?_ | refine LWp.region ?_ | refine LWp.block ?_ | refine LWp.exit ?_ | refine LWp.ret ?_ | refine LWp.skip ?_ | refine LOps.valA ?_ | refine LOps.outA ?_ | refine LOps.whenA ?_ | refine LOps.pickA ?_ | refine LOps.storeA ?_)
  exact ⟨_, LRes.one rfl, rfl, hle.trans nw.le⟩
end Go.Proofs.Ytndcdmmmfplbbaa.LF
