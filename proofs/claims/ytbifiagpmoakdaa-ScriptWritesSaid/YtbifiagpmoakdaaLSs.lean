/- Great; what an argument of entries is. -/
import Derived.Test.YtbifiagpmoakdaaLSr
import Derived.Test.YtbifiagpmoakdaaLSm
set_option linter.unusedVariables false
set_option linter.unusedSimpArgs false
namespace Go.Proofs.Ytbifiagpmoakdaa.LF
open Go.RowKit
set_option linter.unusedVariables false

def gWr (n : Nat) (w : Wr) : Nat := n + min w.key.size 60001 + min w.val.size 60001
def gOp (n : Nat) (e : En) : Nat := n + min e.op.key.size 60001 + min e.op.val.size 60001 + min e.op.old.size 60001
def greatR : Nat → Nat → List En → Option Nat
  | _, n, [] => some n
  | i, n, e :: l => if 3000 < i then some n else if 3000 < e.op.writes.length then none else greatR (i + 1) (e.op.writes.foldl gWr (gOp n e)) l
def greatS (l : List En) : Bool := match greatR 0 0 l with
  | none => true
  | some n => decide (3000 < l.length) || decide (60000 < n)

theorem gWr_ge : ∀ (ws : List Wr) (n : Nat), n ≤ ws.foldl gWr n
  | [], n => Nat.le_refl _
  | w :: ws, n => by
    have := gWr_ge ws (gWr n w)
    simp only [List.foldl_cons]
    unfold gWr at this ⊢; omega
theorem gWr_le : ∀ (ws : List Wr) (n : Nat), ws.foldl gWr n ≤ n + ws.length * 120002
  | [], n => by simp
  | w :: ws, n => by
    have := gWr_le ws (gWr n w)
    simp only [List.foldl_cons, List.length_cons]
    have : gWr n w ≤ n + 120002 := by unfold gWr; omega
    omega
theorem gWr_in {w : Wr} : ∀ (ws : List Wr) (n : Nat), w ∈ ws → min w.key.size 60001 + min w.val.size 60001 ≤ ws.foldl gWr n
  | [], n, h => by cases h
  | v :: ws, n, h => by
    simp only [List.foldl_cons]
    rcases List.mem_cons.1 h with rfl | h
    · have := gWr_ge ws (gWr n w)
      unfold gWr at this ⊢; omega
    · exact gWr_in ws _ h
structure SmallE (x : En) : Prop where
  key : x.op.key.size ≤ 60000
  val : x.op.val.size ≤ 60000
  old : x.op.old.size ≤ 60000
  n : x.op.writes.length ≤ 3000
  writes : ∀ w ∈ x.op.writes, WrB w
theorem greatR_small : ∀ (l : List En) (i n m : Nat), i + l.length ≤ 3001 → greatR i n l = some m → n ≤ m ∧ (m ≤ 60000 → ∀ x ∈ l, SmallE x)
  | [], i, n, m, _, h => by
    obtain rfl : n = m := by simpa [greatR] using h
    exact ⟨Nat.le_refl _, fun _ x hx => by cases hx⟩
  | e :: l, i, n, m, hi, h => by
    simp only [List.length_cons] at hi
    unfold greatR at h
    rw [if_neg (by omega)] at h
    split at h
    · cases h
    · rename_i h3
      obtain ⟨h1, h2⟩ := greatR_small l (i + 1) _ m (by omega) h
      have h4 := gWr_ge e.op.writes (gOp n e)
      have h5 : n ≤ gOp n e := by unfold gOp; omega
      refine ⟨by omega, fun hm x hx => ?_⟩
      rcases List.mem_cons.1 hx with rfl | hx
      · have h6 : gOp n x ≤ 60000 := by omega
        unfold gOp at h6
        refine ⟨by omega, by omega, by omega, by omega, fun w hw => ?_⟩
        have h7 := gWr_in x.op.writes (gOp n x) hw
        exact ⟨by omega, by omega⟩
      · exact h2 hm x hx
theorem greatS_small {l : List En} (h : greatS l = false) : l.length ≤ 3000 ∧ ∀ x ∈ l, SmallE x := by
  unfold greatS at h
  split at h
  · cases h
  · rename_i n hn
    simp at h
    exact ⟨h.1, (greatR_small l 0 0 n (by omega) hn).2 h.2⟩

set_option maxHeartbeats 8000000 in
theorem great_F {G : Ctx} (hP : G.P = Try.prog) (l : List En) : LFun G 15 [.one (.sl .sh (l.map enL))] (.one (bv (greatS l))) := LFun.of fun S => by
  have hD : TabOK G.P D := by rw [hP]; exact hD0
  have hml : (l.map enL).length = l.length := List.length_map ..
  refine LCalls.enter (fn := Try.f15) (by rw [hP]; exact Try.func15) rfl rfl ?_
  repeat (first | refine LOps.nil ?_ | refine andThen_normal ?_ | refine andThen_exit ?_ | refine andThen_ret ?_ | refine inBlock_normal ?_ | refine inBlock_ret ?_ | refine inBlock_here ?_ | refine inBlock_out rfl ?_ | refine LWp.seq ?_ | refine LWp.region ?_ | refine LWp.block ?_ | refine LWp.exit ?_ | refine LWp.ret ?_ | refine LWp.skip ?_ | refine LOps.valA ?_ | refine LOps.outA ?_ | refine LOps.whenA ?_ | refine LOps.pickA ?_ | refine LOps.storeA ?_)
  refine LWp.loop (fun k T S' => S.le S' ∧ ∃ (T' : Nat → TV) (i n : Nat), i ≤ l.length ∧ i ≤ 3001 ∧ k = l.length - i ∧ n ≤ i * 400000000 ∧ greatR 0 0 l = greatR i n (l.drop i) ∧ T = over T' [(0, .one (.sl .sh (l.map enL))), (3, .one (iv (n : Nat))), (4, .one (iv (i : Nat)))]) l.length ?_ ?_
  · exact ⟨.refl _, _, 0, 0, by omega, by omega, rfl, by omega, by simp, holds.over ⟨rfl, rfl, rfl, trivial⟩⟩
  rintro k T S1 ⟨hle, T', i, n, hi, hi3, rfl, hn, hg, rfl⟩
  have hni : i * 400000000 ≤ 3001 * 400000000 := Nat.mul_le_mul_right _ hi3
  repeat (first | refine LOps.nil ?_ | refine andThen_normal ?_ | refine andThen_exit ?_ | refine andThen_ret ?_ | refine inBlock_normal ?_ | refine inBlock_ret ?_ | refine inBlock_here ?_ | refine inBlock_out rfl ?_ | refine LWp.seq ?_ | refine LWp.region ?_ | refine LWp.block ?_ | refine LWp.exit ?_ | refine LWp.ret ?_ | refine LWp.skip ?_ | refine LOps.valA ?_ | refine LOps.outA ?_ | refine LOps.whenA ?_ | refine LOps.pickA ?_ | refine LOps.storeA ?_)
  have hcond : ((decide ((i : Int) < ((l.map enL).length : Int))) && decide ((i : Int) ≤ 3000)) = decide (i < l.length ∧ i ≤ 3000) := by
    rw [hml, Bool.eq_iff_iff]; simp only [Bool.and_eq_true, decide_eq_true_eq]; omega
  refine LWp.cond rfl (fun h => ?_) (fun h => ?_)
  · have h : ((decide ((i : Int) < ((l.map enL).length : Int))) && decide ((i : Int) ≤ 3000)) = true := h
    rw [hcond] at h
    obtain ⟨hlt, hi3'⟩ := of_decide_eq_true h
    have hmw : (l[i].op.writes.map wrL).length = l[i].op.writes.length := List.length_map ..
    have hmin : ∀ s : ByteArray, (if (60001 : Int) < (s.size : Int) then (60001 : Int) else (s.size : Int)) = ((min s.size 60001 : Nat) : Int) := fun s => by split <;> omega
    have hdrop : greatR i n (l.drop i) = if 3000 < l[i].op.writes.length then none else greatR (i + 1) (l[i].op.writes.foldl gWr (gOp n l[i])) (l.drop (i + 1)) := by
      rw [List.drop_eq_getElem_cons hlt, greatR, if_neg (by omega)]
    have hgo : gOp n l[i] ≤ n + 180003 := by unfold gOp; omega
    repeat (first | refine LOps.nil ?_ | refine andThen_normal ?_ | refine andThen_exit ?_ | refine andThen_ret ?_ | refine inBlock_normal ?_ | refine inBlock_ret ?_ | refine inBlock_here ?_ | refine inBlock_out rfl ?_ | refine LWp.seq ?_ | refine LWp.region ?_ | refine LWp.block ?_ | refine LWp.exit ?_ | refine LWp.ret ?_ | refine LWp.skip ?_ | refine LOps.valA ?_ | refine LOps.outA ?_ | refine LOps.whenA ?_ | refine LOps.pickA ?_ | refine LOps.storeA ?_)
    refine LOps.do (LDo.alloc hD rfl rfl rfl) rfl rfl rfl ?_
    rintro _ _ ⟨b5, hb5, rfl, rfl⟩
    have s5 := hle.none hb5
    repeat (first | refine LOps.gen (fun S2 => S.le S2 ∧ S2.box b5 = some (opL l[i].op)) ⟨(hle.newBox hb5 _).setBox s5 _, box_set _ _ _⟩ ?_ | refine LOps.nil ?_ | refine andThen_normal ?_ | refine andThen_exit ?_ | refine andThen_ret ?_ | refine inBlock_normal ?_ | refine inBlock_ret ?_ | refine inBlock_here ?_ | refine inBlock_out rfl ?_ | refine LWp.seq ?_ | refine LWp.region ?_ | refine LWp.block ?_ | refine LWp.exit ?_ | refine LWp.ret ?_ | refine LWp.skip ?_ | refine LOps.valA ?_ | refine LOps.outA ?_ | refine LOps.whenA ?_ | refine LOps.pickA ?_ | refine LOps.storeA ?_)
    clear hle hb5
    rintro S2 ⟨hle, k5⟩
    repeat (first | refine LOps.val (LVal.to (LVal.min rfl rfl rfl) (congrArg (fun x => TV.one (iv x)) (hmin _))) rfl rfl rfl ?_ | refine LOps.nil ?_ | refine andThen_normal ?_ | refine andThen_exit ?_ | refine andThen_ret ?_ | refine inBlock_normal ?_ | refine inBlock_ret ?_ | refine inBlock_here ?_ | refine inBlock_out rfl ?_ | refine LWp.seq ?_ | refine LWp.region ?_ | refine LWp.block ?_ | refine LWp.exit ?_ | refine LWp.ret ?_ | refine LWp.skip ?_ | refine LOps.valA ?_ | refine LOps.outA ?_ | refine LOps.whenA ?_ | refine LOps.pickA ?_ | refine LOps.storeA ?_)
    have hsum : (n : Int) + ((min l[i].op.key.size 60001 : Nat) : Int) + ((min l[i].op.val.size 60001 : Nat) : Int) + ((min l[i].op.old.size 60001 : Nat) : Int) = ((gOp n l[i] : Nat) : Int) := by unfold gOp; omega
    refine LWp.cond rfl (fun h => ?_) (fun h => ?_)
    · have hgt : 3000 < l[i].op.writes.length := by
        have h : decide (((l[i].op.writes.map wrL).length : Int) > 3000) = true := h
        rw [hmw] at h
        simp at h; omega
      have he : greatS l = true := by unfold greatS; rw [hg, hdrop, if_pos hgt]
      rw [he]
      repeat (first | refine LOps.nil ?_ | refine andThen_normal ?_ | refine andThen_exit ?_ | refine andThen_ret ?_ | refine inBlock_normal ?_ | refine inBlock_ret ?_ | refine inBlock_here ?_ | refine inBlock_out rfl ?_ | refine LWp.seq ?_ | refine LWp.region ?_ | refine LWp.block ?_ | refine LWp.exit ?_ | refine LWp.ret ?_ | refine LWp.skip ?_ | refine LOps.valA ?_ | refine LOps.outA ?_ | refine LOps.whenA ?_ | refine LOps.pickA ?_ | refine LOps.storeA ?_)
      exact ⟨_, LRes.one rfl, rfl, hle⟩
    · have hgt : l[i].op.writes.length ≤ 3000 := by
        have h : decide (((l[i].op.writes.map wrL).length : Int) > 3000) = false := h
        rw [hmw] at h
        simp at h; omega
      rw [if_neg (by omega)] at hdrop
      rw [hsum]
      repeat (first | refine LOps.nil ?_ | refine andThen_normal ?_ | refine andThen_exit ?_ | refine andThen_ret ?_ | refine inBlock_normal ?_ | refine inBlock_ret ?_ | refine inBlock_here ?_ | refine inBlock_out rfl ?_ | refine LWp.seq ?_ | refine LWp.region ?_ | refine LWp.block ?_ | refine LWp.exit ?_ | refine LWp.ret ?_ | refine LWp.skip ?_ | refine LOps.valA ?_ | refine LOps.outA ?_ | refine LOps.whenA ?_ | refine LOps.pickA ?_ | refine LOps.storeA ?_)
      refine LWp.loop (fun k T S' => S' = S2 ∧ ∃ (T' : Nat → TV) (j : Nat), j ≤ l[i].op.writes.length ∧ k = l[i].op.writes.length - j ∧ T = over T' [(0, .one (.sl .sh (l.map enL))), (3, .one (iv (((l[i].op.writes.take j).foldl gWr (gOp n l[i]) : Nat) : Int))), (4, .one (iv (i : Nat))), (5, ptr b5), (6, .one (iv (j : Nat)))]) l[i].op.writes.length ?_ ?_
      · exact ⟨rfl, _, 0, by omega, rfl, holds.over ⟨rfl, rfl, rfl, rfl, rfl, trivial⟩⟩
      rintro k T _ ⟨rfl, T', j, hj, rfl, rfl⟩
      have hlim := gWr_le (l[i].op.writes.take j) (gOp n l[i])
      have htl : (l[i].op.writes.take j).length ≤ 3000 := by rw [List.length_take]; omega
      have hml3 := Nat.mul_le_mul_right 120002 htl
      repeat (first | refine LOps.nil ?_ | refine andThen_normal ?_ | refine andThen_exit ?_ | refine andThen_ret ?_ | refine inBlock_normal ?_ | refine inBlock_ret ?_ | refine inBlock_here ?_ | refine inBlock_out rfl ?_ | refine LWp.seq ?_ | refine LWp.region ?_ | refine LWp.block ?_ | refine LWp.exit ?_ | refine LWp.ret ?_ | refine LWp.skip ?_ | refine LOps.valA ?_ | refine LOps.outA ?_ | refine LOps.whenA ?_ | refine LOps.pickA ?_ | refine LOps.storeA ?_)
      refine LWp.cond rfl (fun h => ?_) (fun h => ?_)
      · have hlt2 : j < l[i].op.writes.length := by
          have h : decide ((j : Int) < ((l[i].op.writes.map wrL).length : Int)) = true := h
          rw [hmw] at h
          simp at h; omega
        have hsum2 : (((l[i].op.writes.take j).foldl gWr (gOp n l[i]) : Nat) : Int) + ((min l[i].op.writes[j].key.size 60001 : Nat) : Int) + ((min l[i].op.writes[j].val.size 60001 : Nat) : Int) = (((l[i].op.writes.take (j + 1)).foldl gWr (gOp n l[i]) : Nat) : Int) := by
          rw [List.take_succ_eq_append_getElem hlt2, List.foldl_append]; simp [gWr]
        generalize (l[i].op.writes.take j).foldl gWr (gOp n l[i]) = cur at hlim hsum2
        repeat (first | refine LOps.nil ?_ | refine andThen_normal ?_ | refine andThen_exit ?_ | refine andThen_ret ?_ | refine inBlock_normal ?_ | refine inBlock_ret ?_ | refine inBlock_here ?_ | refine inBlock_out rfl ?_ | refine LWp.seq ?_ | refine LWp.region ?_ | refine LWp.block ?_ | refine LWp.exit ?_ | refine LWp.ret ?_ | refine LWp.skip ?_ | refine LOps.valA ?_ | refine LOps.outA ?_ | refine LOps.whenA ?_ | refine LOps.pickA ?_ | refine LOps.storeA ?_)
        refine LWp.drawL [0, 1, 2, 3, 4, 5, 6, 7, 8, 9, 10, 11, 12, 13, 14, 15, 16, 17, 18, 19] (by rw [hP]; rfl) rfl ?_
        repeat (first | refine LRl.val (fun _ _ => LVal.to (LVal.min rfl rfl rfl) (congrArg (fun x => TV.one (iv x)) (hmin _))) rfl rfl rfl ?_ | refine LRl.nil ?_ | refine LRl.valA ?_ | refine LRl.outA ?_ | refine LRl.whenA ?_ | refine LRl.pickA ?_)
        rw [hsum2]
        repeat (first | refine LOps.nil ?_ | refine andThen_normal ?_ | refine andThen_exit ?_ | refine andThen_ret ?_ | refine inBlock_normal ?_ | refine inBlock_ret ?_ | refine inBlock_here ?_ | refine inBlock_out rfl ?_ | refine LWp.seq ?_ | refine LWp.region ?_ | refine LWp.block ?_ | refine LWp.exit ?_ | refine LWp.ret ?_ | refine LWp.skip ?_ | refine LOps.valA ?_ | refine LOps.outA ?_ | refine LOps.whenA ?_ | refine LOps.pickA ?_ | refine LOps.storeA ?_)
        exact ⟨l[i].op.writes.length - (j + 1), by omega, rfl, _, j + 1, by omega, rfl, holds.over ⟨rfl, rfl, rfl, rfl, rfl, trivial⟩⟩
      · have hge : j = l[i].op.writes.length := by
          have h : decide ((j : Int) < ((l[i].op.writes.map wrL).length : Int)) = false := h
          rw [hmw] at h
          simp at h; omega
        subst hge
        rw [List.take_length] at hlim
        rw [List.take_length]
        have hlim2 := gWr_le l[i].op.writes (gOp n l[i])
        repeat (first | refine LOps.nil ?_ | refine andThen_normal ?_ | refine andThen_exit ?_ | refine andThen_ret ?_ | refine inBlock_normal ?_ | refine inBlock_ret ?_ | refine inBlock_here ?_ | refine inBlock_out rfl ?_ | refine LWp.seq ?_ | refine LWp.region ?_ | refine LWp.block ?_ | refine LWp.exit ?_ | refine LWp.ret ?_ | refine LWp.skip ?_ | refine LOps.valA ?_ | refine LOps.outA ?_ | refine LOps.whenA ?_ | refine LOps.pickA ?_ | refine LOps.storeA ?_)
        exact ⟨l.length - (i + 1), by omega, hle, _, i + 1, _, by omega, by omega, rfl, by omega, by rw [hg, hdrop], holds.over ⟨rfl, rfl, rfl, trivial⟩⟩
  · have h : ((decide ((i : Int) < ((l.map enL).length : Int))) && decide ((i : Int) ≤ 3000)) = false := h
    rw [hcond] at h
    have hend := of_decide_eq_false h
    have hr : greatR i n (l.drop i) = some n := by
      by_cases hil : i < l.length
      · rw [List.drop_eq_getElem_cons hil, greatR, if_pos (by omega)]
      · rw [List.drop_eq_nil_of_le (by omega)]; rfl
    have he : greatS l = (decide (((l.map enL).length : Int) > 3000) || decide ((n : Int) > 60000)) := by
      unfold greatS
      rw [hg, hr, hml]
      simp only
      rw [Bool.eq_iff_iff]; simp only [Bool.or_eq_true, decide_eq_true_eq]; omega
    rw [he]
    repeat (first | refine LOps.nil ?_ | refine andThen_normal ?_ | refine andThen_exit ?_ | refine andThen_ret ?_ | refine inBlock_normal ?_ | refine inBlock_ret ?_ | refine inBlock_here ?_ | refine inBlock_out rfl ?_ | refine LWp.seq ?_ | refine LWp.region ?_ | refine LWp.block ?_ | refine LWp.exit ?_ | refine LWp.ret ?_ | refine LWp.skip ?_ | refine LOps.valA ?_ | refine LOps.outA ?_ | refine LOps.whenA ?_ | refine LOps.pickA ?_ | refine LOps.storeA ?_)
    exact ⟨_, LRes.one rfl, rfl, hle⟩

/-- What an argument of entries is. -/
structure EnT (x : En) : Prop where
  kind : 0 ≤ x.kind ∧ x.kind < 256
  okind : 0 ≤ x.op.kind ∧ x.op.kind < 256
theorem SmallE.b {x : En} (h : SmallE x) (t : EnT x) : EnB x :=
  ⟨t.kind, t.okind, by have := h.key; omega, by have := h.val; omega, by have := h.old; omega, by have := h.n; omega, h.writes⟩

theorem typed_wr {l : List LV} (h : Typed D 51 l) : ∃ w, l = wrL w := by
  obtain ⟨h1, h2⟩ := typed_struct rfl rfl h
  match l, h1 with
  | [a, b, c], _ =>
    obtain ⟨x, e1, _⟩ := typed_str rfl rfl (h2 0 _ _ rfl rfl)
    obtain ⟨y, e2, _⟩ := typed_str rfl rfl (h2 1 _ _ rfl rfl)
    obtain ⟨z, e3⟩ := typed_bool rfl rfl (h2 2 _ _ rfl rfl)
    simp only [List.drop_zero, List.take_succ_cons, List.take_zero, List.drop_succ_cons] at e1 e2 e3
    cases e1; cases e2; cases e3
    exact ⟨⟨x, y, z⟩, rfl⟩
theorem wf_u8 {n : Int} (h : (Lit.int .u8 n).wf = true) : 0 ≤ n ∧ n < 256 := by
  simp [Lit.wf, IntKind.min, IntKind.max, IntKind.signed, IntKind.bits] at h
  omega
theorem typed_en {l : List LV} (h : Typed D 35 l) : ∃ x, l = enL x ∧ EnT x := by
  obtain ⟨h1, h2⟩ := typed_struct rfl rfl h
  match l, h1 with
  | [a0, a1, a2, a3, a4, a5, a6, a7, a8, a9], _ =>
    obtain ⟨x0, e0, w0⟩ := typed_int rfl rfl (h2 0 _ _ rfl rfl)
    obtain ⟨x1, e1, _⟩ := typed_int rfl rfl (h2 1 _ _ rfl rfl)
    obtain ⟨x2, e2, _⟩ := typed_int rfl rfl (h2 2 _ _ rfl rfl)
    obtain ⟨_, o2⟩ := typed_struct rfl rfl (h2 3 _ _ rfl rfl)
    obtain ⟨x3, e3, w3⟩ := typed_int rfl rfl (o2 0 _ _ rfl rfl)
    obtain ⟨x4, e4, _⟩ := typed_str rfl rfl (o2 1 _ _ rfl rfl)
    obtain ⟨x5, e5, _⟩ := typed_str rfl rfl (o2 2 _ _ rfl rfl)
    obtain ⟨x6, e6, _⟩ := typed_str rfl rfl (o2 3 _ _ rfl rfl)
    obtain ⟨x7, e7⟩ := typed_bool rfl rfl (o2 4 _ _ rfl rfl)
    obtain ⟨x8, e8⟩ := typed_bool rfl rfl (o2 5 _ _ rfl rfl)
    obtain ⟨es, e9, h9, _⟩ := typed_slice rfl rfl rfl (o2 6 _ _ rfl rfl)
    obtain ⟨ws, rfl⟩ := typed_all h9 fun c hc => typed_wr hc
    simp only [List.drop_zero, List.take_succ_cons, List.take_zero, List.drop_succ_cons] at e0 e1 e2 e3 e4 e5 e6 e7 e8 e9
    cases e0; cases e1; cases e2; cases e3; cases e4; cases e5; cases e6; cases e7; cases e8; cases e9
    exact ⟨⟨x0, x1, x2, ⟨x3, x4, x5, x6, x7, x8, ws⟩⟩, rfl, wf_u8 w0, wf_u8 w3⟩
theorem typed_ens {l : List LV} (h : Typed D 24 l) : ∃ es : List En, l = [.sl .sh (es.map enL)] ∧ ∀ x ∈ es, EnT x := by
  obtain ⟨es, rfl, h1, _⟩ := typed_slice rfl rfl rfl h
  have key : ∀ es : List (List LV), (∀ c ∈ es, Typed D 35 c) → ∃ xs : List En, es = xs.map enL ∧ ∀ x ∈ xs, EnT x := by
    intro es
    induction es with
    | nil => intro _; exact ⟨[], rfl, fun x hx => by cases hx⟩
    | cons c es ih =>
      intro h
      obtain ⟨xs, rfl, hx⟩ := ih fun c hc => h c (List.mem_cons_of_mem _ hc)
      obtain ⟨x, rfl, ht⟩ := typed_en (h c (by simp))
      refine ⟨x :: xs, rfl, fun y hy => ?_⟩
      rcases List.mem_cons.1 hy with rfl | hy
      · exact ht
      · exact hx y hy
  obtain ⟨xs, rfl, hx⟩ := key es h1
  exact ⟨xs, rfl, hx⟩
end Go.Proofs.Ytbifiagpmoakdaa.LF
