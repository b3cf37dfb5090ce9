/- A box becomes a row that stays; calls of functions that look at slices that lead into boxes. -/
import Derived.Test.YtkjbdldjfjkneaaLFx
set_option linter.unusedVariables false
set_option linter.unusedSimpArgs false
namespace Go.Proofs.Ytkjbdldjfjkneaa.LF
open Go.RowKit

def LS.delBox (S : LS) (b : Nat) : LS := { S with box := fun x => bif Nat.beq x b then Option.none else S.box x }
theorem box_del (S : LS) (b : Nat) : (S.delBox b).box b = Option.none := by simp [LS.delBox]
theorem box_del_ne (S : LS) {b b' : Nat} (h : b' ≠ b) : (S.delBox b).box b' = S.box b' := by
  simp only [LS.delBox]
  rcases beq_cases b' b (Option.none : Option (List LV)) (S.box b') with ⟨e, _⟩ | ⟨_, e⟩
  · exact absurd e h
  · exact e

theorem Inv.freeze {G : Ctx} {S : LS} {K : Kept} {w : World} (h : Inv G S K w) {b : Nat} {cs : List LV} (hb : S.box b = some cs) :
    Inv G (S.delBox b) (withRow K b cs.length) w ∧ Ext K w (withRow K b cs.length) w := by
  obtain ⟨c, T, c1, c2, c3⟩ := h.cells hb
  have hx : Ext K w (withRow K b cs.length) w := ⟨fun k j hk => ⟨.inl hk, rfl⟩, fun _ _ h => h, Nat.le_refl _, fun _ h => h⟩
  refine ⟨⟨h.below, h.base, fun k j hk => ?_, fun k cs' hk => ?_, fun k T' n hk => ?_, fun k o hk => h.obj k o hk, h.top, G.stable _ _ _ _ h.since hx⟩, hx⟩
  · rcases hk with hk | ⟨rfl, hj⟩
    · exact h.live k j hk
    · exact ⟨c[j]'(by omega), by rw [cell_of_row w k j c T (0, 0) c1, Array.getElem?_eq_getElem (by omega)]⟩
  · simp only [LS.delBox] at hk
    rcases beq_cases k b (Option.none : Option (List LV)) (S.box k) with ⟨_, e⟩ | ⟨hne, e⟩
    · rw [e] at hk; cases hk
    · rw [e] at hk
      obtain ⟨h1, h2, c', T', h3, h4, h5, h6⟩ := h.box k cs' hk
      refine ⟨h1, h2, c', T', h3, h4, fun j x v hj hv => (h5 j x v hj hv).mono hx, fun j hk => ?_⟩
      rcases hk with hk | ⟨e', _⟩
      · exact h6 j hk
      · exact hne e'
  · have hk' : S.row k = some (T', n) := hk
    obtain ⟨h1, h2, h3, c', h4, h5⟩ := h.row k T' n hk'
    have hne : k ≠ b := fun e => by subst e; rw [hb] at h3; cases h3
    refine ⟨h1, h2, by rw [box_del_ne _ hne]; exact h3, c', h4, fun j hj hk => ?_⟩
    rcases hk with hk | ⟨e', _⟩
    · exact h5 j hj hk
    · exact hne e'

/-- A part of a box, as a row. -/
structure Part (cs : List LV) (off c z : Nat) (es : List (List LV)) : Prop where
  each : ∀ e ∈ es, e.length = z
  eq : (cs.drop off).take (es.length * z) = es.flatten
  fit : off + es.length * z ≤ cs.length
  cap : es.length ≤ c

theorem Part.rep {G G' : Ctx} {S : LS} {K K' : Kept} {w : World} (hi : Inv G S K w) {b off c z : Nat} {cs : List LV} {es : List (List LV)} (hb : S.box b = some cs) (h : Part cs off c z es) (hx : Ext K w K' w) (hk : ∀ j, j < cs.length → K' b j) (hP : G.P = G'.P) :
    Rep G' w K' (.sl .sh es) (.slice (some ⟨b, off, Option.none⟩) es.length c) := by
  obtain ⟨cur, T, c1, c2, c3⟩ := hi.cells hb
  have hvl : ((cur.toList.drop off).take (es.length * z)).length = es.length * z := by
    rw [List.length_take, List.length_drop, Array.length_toList (xs := cur)]; have := h.fit; omega
  refine Rep.ofFlat (z := z) (vs := (cur.toList.drop off).take (es.length * z)) ⟨hvl, h.each, fun i j x hij => ?_⟩ (by simp) h.cap (fun q u hu => ?_) (by simp)
  · obtain ⟨l1, l2⟩ := cellOf_lt h.each hij
    have hlt := lt_mul l1 l2
    rw [← flatten_get h.each i j l2, ← h.eq, List.getElem?_take, if_pos hlt, List.getElem?_drop] at hij
    obtain ⟨v, d1, d2, d3⟩ := c3 _ x hij
    exact ⟨v, by rw [List.getElem?_take, if_pos hlt, List.getElem?_drop, Array.getElem?_toList]; exact d1, (d3.mono hx).ctx hP⟩
  · have hq := (List.getElem?_eq_some_iff.1 hu).1
    rw [hvl] at hq
    rw [List.getElem?_take, if_pos hq, List.getElem?_drop, Array.getElem?_toList] at hu
    exact ⟨by rw [cell_of_row w b (off + q) cur T (0, 0) c1]; exact hu, hk _ (by have := h.fit; omega)⟩

theorem LWp.conv {G : Ctx} {M : Option Nat} {n : Nat} {c : Code} {Q : Exit → (Nat → TV) → LS → Prop} {T T' : Nat → TV} {S S' : LS}
    (h : ∀ K w (a : Act), Inv G S K w → RelT G w K n T a → ∃ K', Inv G S' K' w ∧ RelT G w K' n T' a ∧ Ext K w K' w) (k : LWp G M n c Q T' S') : LWp G M n c Q T S := by
  intro m K w a h1 h2 h3
  obtain ⟨K', i1, i2, i3⟩ := h K w a h1 h2
  exact wpIn_mono (k m K' w a i1 i2 (h3.mono i3)) fun e a' w' hp => hp.trans i3
theorem LOps.conv {G : Ctx} {M : Option Nat} {n : Nat} {ops : Array Oper} {l : List Oper} {Q : (Nat → TV) → LS → Prop} {T T' : Nat → TV} {S S' : LS}
    (h : ∀ K w (a : Act), Inv G S K w → RelT G w K n T a → ∃ K', Inv G S' K' w ∧ RelT G w K' n T' a ∧ Ext K w K' w) (k : LOps G M n ops l Q T' S') : LOps G M n ops l Q T S := by
  intro m K w a h1 h2 h3
  obtain ⟨K', i1, i2, i3⟩ := h K w a h1 h2
  exact wpListIn_mono (fun e a' w' hp => ⟨hp.1, hp.2.trans i3⟩) _ _ _ (k m K' w a i1 i2 (h3.mono i3))

theorem frozen_slot {G : Ctx} {n : Nat} {T : Nat → TV} {S : LS} {d b off c z : Nat} {cs : List LV} {es : List (List LV)} (hd : T d = .one (rsl b off es.length c)) (hb : S.box b = some cs) (h : Part cs off c z es) :
    ∀ K w (a : Act), Inv G S K w → RelT G w K n T a → ∃ K', Inv G (S.delBox b) K' w ∧ RelT G w K' n (upd T d (.one (.sl .sh es))) a ∧ Ext K w K' w := fun K w a hi hr => by
  obtain ⟨j1, j2⟩ := hi.freeze hb
  refine ⟨_, j1, ⟨hr.1, fun q => ?_⟩, j2⟩
  by_cases hq : q = d
  · subst hq
    rw [upd_same]
    have hv := hr.2 q
    rw [hd] at hv
    rw [hv.flat]
    exact .one (h.rep hi hb j2 (fun j hj => .inr ⟨rfl, hj⟩) rfl)
  · rw [upd_ne T _ hq]; exact (hr.2 q).mono j2
/-- A slot's box becomes a row that stays. -/
theorem LWp.freeze (d : Nat) {G : Ctx} {M : Option Nat} {n : Nat} {code : Code} {Q : Exit → (Nat → TV) → LS → Prop} {T : Nat → TV} {S : LS} {b off c z : Nat} {cs : List LV} {es : List (List LV)} (hd : T d = .one (rsl b off es.length c)) (hb : S.box b = some cs) (h : Part cs off c z es)
    (k : LWp G M n code Q (upd T d (.one (.sl .sh es))) (S.delBox b)) : LWp G M n code Q T S := .conv (frozen_slot hd hb h) k
theorem LOps.freeze (d : Nat) {G : Ctx} {M : Option Nat} {n : Nat} {ops : Array Oper} {l : List Oper} {Q : (Nat → TV) → LS → Prop} {T : Nat → TV} {S : LS} {b off c z : Nat} {cs : List LV} {es : List (List LV)} (hd : T d = .one (rsl b off es.length c)) (hb : S.box b = some cs) (h : Part cs off c z es)
    (k : LOps G M n ops l Q (upd T d (.one (.sl .sh es))) (S.delBox b)) : LOps G M n ops l Q T S := .conv (frozen_slot hd hb h) k

/-- How a value is looked at. -/
inductive View (S : LS) : LV → LV → Prop
  | same (x : LV) : View S x x
  | sh (o : Own) (es : List (List LV)) : View S (.sl o es) (.sl .sh es)
  | row (b off c z : Nat) (cs : List LV) (es : List (List LV)) (n : Nat) (hn : n = es.length) (hb : S.box b = some cs) (h : Part cs off c z es) : View S (rsl b off n c) (.sl .sh es)
def views (S : LS) : List LV → List LV → Prop
  | [], [] => True
  | y :: l, x :: l' => View S y x ∧ views S l l'
  | _, _ => False
inductive ViewT (S : LS) : TV → TV → Prop
  | one {y x : LV} (h : View S y x) : ViewT S (.one y) (.one x)
  | agg {l l' : List LV} (h : views S l l') : ViewT S (.agg l) (.agg l')
def viewsT (S : LS) : List TV → List TV → Prop
  | [], [] => True
  | y :: l, x :: l' => ViewT S y x ∧ viewsT S l l'
  | _, _ => False

theorem Inv.all {G : Ctx} {S : LS} {K : Kept} {w : World} (h : Inv G S K w) : Ext K w (allCells w) w := ⟨fun b j hk => ⟨h.live b j hk, rfl⟩, fun _ _ h => h, Nat.le_refl _, fun _ h => h⟩

theorem View.rep {G G' : Ctx} {S : LS} {K : Kept} {w : World} (hi : Inv G S K w) (hP : G.P = G'.P) {y x : LV} (h : View S y x) {v : Value} (hr : Rep G w K y v) : Rep G' w (allCells w) x v := by
  cases h with
  | same x => exact (hr.mono hi.all).ctx hP
  | sh o es => exact (hr.share.mono hi.all).ctx hP
  | row b off c z cs es n hn hb h =>
    subst hn
    have hv := (RepT.one hr).flat
    subst hv
    obtain ⟨cur, T, c1, c2, c3⟩ := hi.cells hb
    exact h.rep hi hb hi.all (fun j hj => ⟨cur[j]'(by omega), by rw [cell_of_row w b j cur T (0, 0) c1, Array.getElem?_eq_getElem (by omega)]⟩) hP
theorem views.get {S : LS} : ∀ {l l' : List LV}, views S l l' → l.length = l'.length ∧ ∀ (j : Nat) x, l'[j]? = some x → ∃ y, l[j]? = some y ∧ View S y x
  | [], [], _ => ⟨rfl, by simp⟩
  | y :: l, x :: l', ⟨h, k⟩ => by
    obtain ⟨h1, h2⟩ := views.get k
    refine ⟨by simp [h1], fun j z hj => ?_⟩
    cases j with
    | zero => obtain rfl : x = z := by simpa using hj
              exact ⟨y, rfl, h⟩
    | succ j => exact h2 j z (by simpa using hj)
theorem ViewT.rep {G G' : Ctx} {S : LS} {K : Kept} {w : World} (hi : Inv G S K w) (hP : G.P = G'.P) {y x : TV} (h : ViewT S y x) {v : Value} (hr : RepT G w K y v) : RepT G' w (allCells w) x v := by
  cases h with
  | one h => exact .one (h.rep hi hP hr.of_one)
  | agg h =>
    obtain ⟨vs, rfl, h1, h2⟩ := hr.agg_inv
    obtain ⟨h3, h4⟩ := h.get
    refine .agg _ vs (by rw [h1, h3]) fun j x v hj hv => ?_
    obtain ⟨y, h5, h6⟩ := h4 j x hj
    exact h6.rep hi hP (h2 j y v h5 hv)
theorem viewsT.get {S : LS} : ∀ {l l' : List TV}, viewsT S l l' → l.length = l'.length ∧ ∀ (j : Nat) x, l'[j]? = some x → ∃ y, l[j]? = some y ∧ ViewT S y x
  | [], [], _ => ⟨rfl, by simp⟩
  | y :: l, x :: l', ⟨h, k⟩ => by
    obtain ⟨h1, h2⟩ := viewsT.get k
    refine ⟨by simp [h1], fun j z hj => ?_⟩
    cases j with
    | zero => obtain rfl : x = z := by simpa using hj
              exact ⟨y, rfl, h⟩
    | succ j => exact h2 j z (by simpa using hj)

/-- Plain values: no slices. -/
def flatLV : LV → Bool
  | .v _ => true
  | _ => false
def flat1 : TV → Bool
  | .one x => flatLV x
  | .agg l => l.all flatLV
  | _ => false
def flatTV : TV → Bool
  | .tup l => l.all flat1
  | r => flat1 r
theorem Rep.flatAny {G G' : Ctx} {w w' : World} {K K' : Kept} {x : LV} {v : Value} (h : Rep G w K x v) (hf : flatLV x = true) : Rep G' w' K' x v := by
  cases h with
  | raw _ h1 => exact .raw _ h1
  | _ => cases hf
theorem RepT.flatO {G G' : Ctx} {w w' : World} {K K' : Kept} {r : TV} {v : Value} (h : RepT G w K r v) (hf : LF.flat1 r = true) : RepT G' w' K' r v := by
  cases h with
  | one h => exact .one (h.flatAny hf)
  | agg l vs hs h => exact .agg l vs hs fun j x v hj hv => (h j x v hj hv).flatAny (List.all_eq_true.1 hf x (List.mem_of_getElem? hj))
  | _ => cases hf
theorem RepT.flatAny {G G' : Ctx} {w w' : World} {K K' : Kept} {r : TV} {v : Value} (h : RepT G w K r v) (hf : flatTV r = true) : RepT G' w' K' r v := by
  cases r with
  | tup l =>
    obtain ⟨vs, rfl, h1, h2⟩ := h.tup_inv
    exact .tup l vs h1 fun j x v hj hv => RepT.flatO (h2 j x v hj hv) (List.all_eq_true.1 hf x (List.mem_of_getElem? hj))
  | one x => exact RepT.flatO h hf
  | agg l => exact RepT.flatO h hf
  | _ => cases hf

/-- What lies below stays: the logical memory stays. -/
theorem Inv.of_below {G : Ctx} {S : LS} {K : Kept} {w w' : World} (h : Inv G S K w) (hb : Below w.heap.size w w') : Inv G S K w' ∧ Ext K w K w' := by
  have hlt : ∀ {b : Nat} {o : Obj}, w.heap[b]? = some o → w'.heap[b]? = some o := fun {b o} ho => by
    rw [hb.block b (Array.getElem?_eq_some_iff.1 ho).1]; exact ho
  have hx : Ext K w K w' := by
    refine ⟨fun b j hk => ⟨hk, ?_⟩, fun b s hs => ?_, hb.size, fun b ho => hlt ho⟩
    · obtain ⟨v, hv⟩ := h.live b j hk
      exact World.cell?_of_block (a := ⟨b, j, Option.none⟩) (hb.block b (by have := World.block_lt_of_cell? w _ hv; simpa using this))
    · have : b < w.heap.size := by
        rcases Nat.lt_or_ge b w.heap.size with h' | h'
        · exact h'
        · simp [World.shape?, Array.getElem?_eq_none h'] at hs
      unfold World.shape? at *
      rw [hb.block b this]; exact hs
  refine ⟨⟨?_, Nat.le_trans h.base hb.size, fun b j hk => ?_, fun b cs hk => ?_, fun b T n hk => ?_, fun b o hk => ?_, Nat.le_trans h.top hb.size, G.stable _ _ _ _ h.since hx⟩, hx⟩
  · have := h.below
    exact ⟨hb.os.trans this.os, hb.tape.trans this.tape, hb.output.trans this.output, Nat.le_trans this.size hb.size, fun k hk => by rw [hb.block k (Nat.lt_of_lt_of_le hk h.base)]; exact this.block k hk⟩
  · obtain ⟨v, hv⟩ := h.live b j hk
    exact ⟨v, by rw [(hx.kept b j hk).2]; exact hv⟩
  · obtain ⟨h1, h2, c, T, h3, h4, h5, h6⟩ := h.box b cs hk
    exact ⟨h1, h2, c, T, hlt h3, h4, fun j x v hj hv => (h5 j x v hj hv).mono hx, h6⟩
  · obtain ⟨h1, h2, h3, c, h4, h5⟩ := h.row b T n hk
    exact ⟨h1, h2, h3, c, hlt h4, h5⟩
  · obtain ⟨h1, h2, h3, h4⟩ := h.obj b o hk
    exact ⟨h1, h2, hlt h3, h4⟩

/-- Arguments, all looked at as what stays. -/
theorem argsAny {G : Ctx} {S : LS} {K : Kept} {w : World} (hi : Inv G S K w) {G' : Ctx} (hP : G.P = G'.P) {T : Nat → TV} {a : Act} {xs : List Operand} {args : List TV} (hv : viewsT S (xs.map (lev T)) args) (hr : ∀ x ∈ xs, RepT G w K (lev T x) (a.eval x)) :
    ArgsRel G' w (allCells w) args (xs.map a.eval).toArray := by
  obtain ⟨h1, h2⟩ := hv.get
  refine ⟨by simpa using h1, fun i x v hx hv' => ?_⟩
  obtain ⟨y, h3, h4⟩ := h2 i x hx
  rw [List.getElem?_map] at h3
  rw [List.getElem?_toArray, List.getElem?_map] at hv'
  cases hq : xs[i]? with
  | none => rw [hq] at h3; simp at h3
  | some z =>
    rw [hq] at h3 hv'
    simp only [Option.map_some, Option.some.injEq] at h3 hv'
    subst h3; subst hv'
    exact h4.rep hi hP (hr z (List.mem_of_getElem? hq))

/-- A call of a function that only looks: whatever leads into boxes is looked at as rows that stay. -/
theorem LVal.callAny {G : Ctx} {o : Oper} {T : Nat → TV} {S : LS} {f : FuncId} {fn : Func} {xs : List Operand} {ts : Array TypeId} {args : List TV} {r : TV}
    (h : ∀ G' : Ctx, G'.P = G.P → LFun G' f args r) (hfl : flatTV r = true) (ho : o.op = .call { callee := .value (.func f), args := xs.toArray, argTypes := ts }) (hf : G.P.funcs[f]? = some fn) (hb : fn.body.isSome = true) (hn : fn.name ≠ "runtime.NumGoroutine")
    (hv : viewsT S (xs.map (lev T)) args) : LVal G o T S r := by
  intro K w a hi hr
  have hrun : (execOp a.eval o).run G.P w = .ok (.enter f (xs.map a.eval).toArray) w := by
    have hbn : fn.body ≠ none := fun e => by rw [e] at hb; cases hb
    simp [execOp, ho, resolve, Act.eval, Deferred.ofValue, invoke, callFunc, hf, hn, hbn]
  unfold Oper.wp
  rw [hrun]
  have hargs := argsAny hi (G' := { P := G.P, base := w.heap.size, W0 := w }) rfl hv (fun x hx => hr x (by rw [ho]; simp [Op.operands, Call.operands]; exact .inr hx))
  refine (h { P := G.P, base := w.heap.size, W0 := w } rfl (LS.none w.heap.size) (allCells w) w _ (Inv.none G.P w) hargs).mono fun e w' hp => ?_
  obtain ⟨r', v, S', K', rfl, h2, h3, h4, rfl, rfl⟩ := hp
  obtain ⟨j1, j2⟩ := hi.of_below h3.below
  exact ⟨v, K, rfl, h2.flatAny hfl, j1, j2⟩

/-- The logical memory with what a call made. -/
def LS.join (S S1 : LS) : LS where
  box := fun b => (S1.box b).or (S.box b)
  row := fun b => (S1.row b).or (S.row b)
  obj := fun b => (S1.obj b).or (S.obj b)
  top := max S.top S1.top
theorem join_box {S S1 : LS} {b : Nat} {cs : List LV} (h : S1.box b = some cs) : (S.join S1).box b = some cs := by simp [LS.join, h]
structure LS.above (n : Nat) (S : LS) : Prop where
  box : ∀ b x, S.box b = some x → n ≤ b
  row : ∀ b x, S.row b = some x → n ≤ b
  obj : ∀ b x, S.obj b = some x → n ≤ b
theorem Inv.above {G : Ctx} {S : LS} {K : Kept} {w : World} (h : Inv G S K w) : S.above G.base := ⟨fun b x hb => (h.box b x hb).1, fun b x hb => (h.row b x.1 x.2 hb).1, fun b x hb => (h.obj b x hb).1⟩
theorem LS.le.join {S S1 : LS} (hw : S.wf) (h : S1.above S.top) : S.le (S.join S1) := by
  refine ⟨fun b x hb => ?_, fun b x hb => ?_, fun b x hb => ?_, Nat.le_max_left _ _⟩
  · have : S1.box b = Option.none := by
      cases hq : S1.box b with
      | none => rfl
      | some y => rw [hw.box b (h.box b y hq)] at hb; cases hb
    simp [LS.join, this, hb]
  · have : S1.row b = Option.none := by
      cases hq : S1.row b with
      | none => rfl
      | some y => rw [hw.row b (h.row b y hq)] at hb; cases hb
    simp [LS.join, this, hb]
  · have : S1.obj b = Option.none := by
      cases hq : S1.obj b with
      | none => rfl
      | some y => rw [hw.obj b (h.obj b y hq)] at hb; cases hb
    simp [LS.join, this, hb]

/-- Cells but for what lies in blocks that may be written, or are not cells of old. -/
def keptJoin (K K' : Kept) (n : Nat) : Kept := fun b j => K b j ∨ (n ≤ b ∧ K' b j)

theorem Inv.join {G G1 : Ctx} {S S1 : LS} {K K1 : Kept} {w w' : World} (h : Inv G S K w) (hP : G1.P = G.P) (hB : G1.base = w.heap.size) (hW : G1.W0 = w) (h1 : Inv G1 S1 K1 w')
    (hrep : ∀ b cs, S1.box b = some cs → cs.all flatLV = true) : Inv G (S.join S1) (keptJoin K K1 w.heap.size) w' ∧ Ext K w (keptJoin K K1 w.heap.size) w' := by
  have hbel : Below w.heap.size w w' := by have := h1.below; rw [hB, hW] at this; exact this
  obtain ⟨j1, j2⟩ := h.of_below hbel
  have hlt : ∀ {b : Nat} {o : Obj}, w.heap[b]? = some o → b < w.heap.size := fun {b o} ho => (Array.getElem?_eq_some_iff.1 ho).1
  have hk1 : ∀ {b j : Nat}, b < w.heap.size → keptJoin K K1 w.heap.size b j → K b j := fun {b j} hb hk => by
    rcases hk with hk | ⟨hk, _⟩
    · exact hk
    · omega
  have hk2 : ∀ {b j : Nat}, w.heap.size ≤ b → keptJoin K K1 w.heap.size b j → K1 b j := fun {b j} hb hk => by
    rcases hk with hk | ⟨_, hk⟩
    · obtain ⟨v, hv⟩ := h.live b j hk
      have := World.block_lt_of_cell? w _ hv
      simp only at this
      omega
    · exact hk
  have hx : Ext K w (keptJoin K K1 w.heap.size) w' := ⟨fun b j hk => ⟨.inl hk, (j2.kept b j hk).2⟩, j2.shape, j2.size, j2.marks⟩
  have hab := h1.above
  rw [hB] at hab
  have hx2 : Ext K w' (keptJoin K K1 w.heap.size) w' := ⟨fun b j hk => ⟨.inl hk, rfl⟩, fun _ _ h => h, Nat.le_refl _, fun _ h => h⟩
  have htop := h.top
  have hwf := h.wf
  refine ⟨⟨j1.below, j1.base, fun b j hk => ?_, fun b cs hk => ?_, fun b T n hk => ?_, fun b o hk => ?_, Nat.max_le.2 ⟨j1.top, h1.top⟩, G.stable _ _ _ _ h.since hx⟩, hx⟩
  · rcases hk with hk | ⟨_, hk⟩
    · exact j1.live b j hk
    · exact h1.live b j hk
  · simp only [LS.join] at hk ⊢
    cases hq : S1.box b with
    | some cs1 =>
      rw [hq] at hk
      obtain rfl : cs1 = cs := by simpa using hk
      obtain ⟨i1, i2, c, T, i3, i4, i5, i6⟩ := h1.box b cs1 hq
      have hb := hab.box b _ hq
      exact ⟨Nat.le_trans h.base hb, by omega, c, T, i3, i4, fun j x v hj hv => (i5 j x v hj hv).flatAny (List.all_eq_true.1 (hrep b cs1 hq) x (List.mem_of_getElem? hj)), fun j hk => i6 j (hk2 hb hk)⟩
    | none =>
      rw [hq] at hk
      have hk : S.box b = some cs := by simpa using hk
      obtain ⟨i1, i2, c', T', k3, k4, k5, k6⟩ := j1.box b cs hk
      exact ⟨i1, by omega, c', T', k3, k4, fun j x v hj hv => (k5 j x v hj hv).mono hx2, fun j hk => k6 j (hk1 (by omega) hk)⟩
  · simp only [LS.join] at hk ⊢
    cases hq : S1.row b with
    | some y =>
      rw [hq] at hk
      obtain rfl : y = (T, n) := by simpa using hk
      obtain ⟨i1, i2, i3, c, i4, i5⟩ := h1.row b T n hq
      have hb := hab.row b _ hq
      exact ⟨Nat.le_trans h.base hb, by omega, by rw [i3, hwf.box b (by omega)]; rfl, c, i4, fun j hj hk => by rw [← hP] at hj; exact i5 j hj (hk2 hb hk)⟩
    | none =>
      rw [hq] at hk
      have hk : S.row b = some (T, n) := by simpa using hk
      obtain ⟨i1, i2, i3, c, i4, i5⟩ := j1.row b T n hk
      have e1 : S1.box b = Option.none := by
        cases hq : S1.box b with
        | none => rfl
        | some y => have := hab.box b y hq; omega
      exact ⟨i1, by omega, by rw [i3, e1]; rfl, c, i4, fun j hj hk => i5 j hj (hk1 (by omega) hk)⟩
  · simp only [LS.join] at hk ⊢
    cases hq : S1.obj b with
    | some y =>
      rw [hq] at hk
      obtain rfl : y = o := by simpa using hk
      obtain ⟨i1, i2, i3, i4⟩ := h1.obj b y hq
      have hb := hab.obj b _ hq
      exact ⟨Nat.le_trans h.base hb, by omega, i3, i4⟩
    | none =>
      rw [hq] at hk
      have hk : S.obj b = some o := by simpa using hk
      obtain ⟨i1, i2, i3, i4⟩ := j1.obj b o hk
      exact ⟨i1, by omega, i3, i4⟩

/-- A call of a function that makes new memory, whatever it looks at looked at as what stays. -/
theorem LDo.callAny {G : Ctx} {o : Oper} {T : Nat → TV} {S : LS} {f : FuncId} {fn : Func} {xs : List Operand} {ts : Array TypeId} {args : List TV} {R : TV → LS → Prop}
    (h : ∀ (G' : Ctx) (S0 : LS), G'.P = G.P → LCalls G' f args (fun r S' => flatTV r = true ∧ (∀ b cs, S0.box b = Option.none → S'.box b = some cs → cs.all flatLV = true) ∧ R r S') S0) (ho : o.op = .call { callee := .value (.func f), args := xs.toArray, argTypes := ts }) (hf : G.P.funcs[f]? = some fn) (hb : fn.body.isSome = true) (hn : fn.name ≠ "runtime.NumGoroutine")
    (hv : viewsT S (xs.map (lev T)) args) : LDo G o T S (fun r S' => ∃ S1, R r S1 ∧ S1.above S.top ∧ S.le (S.join S1) ∧ S' = S.join S1) := by
  intro K w a hi hr
  have hrun : (execOp a.eval o).run G.P w = .ok (.enter f (xs.map a.eval).toArray) w := by
    have hbn : fn.body ≠ none := fun e => by rw [e] at hb; cases hb
    simp [execOp, ho, resolve, Act.eval, Deferred.ofValue, invoke, callFunc, hf, hn, hbn]
  unfold Oper.wp
  rw [hrun]
  have hargs := argsAny hi (G' := { P := G.P, base := w.heap.size, W0 := w }) rfl hv (fun x hx => hr x (by rw [ho]; simp [Op.operands, Call.operands]; exact .inr hx))
  refine (h { P := G.P, base := w.heap.size, W0 := w } (LS.none w.heap.size) rfl (allCells w) w _ (Inv.none G.P w) hargs).mono fun e w' hp => ?_
  obtain ⟨r', v, S', K', rfl, h2, h3, h4, h5, h6, h7⟩ := hp
  have hab := h3.above
  obtain ⟨j1, j2⟩ := hi.join (G1 := { P := G.P, base := w.heap.size, W0 := w }) rfl rfl rfl h3 (fun b cs hb => h6 b cs rfl hb)
  have hab' : S'.above S.top := ⟨fun b x hb => Nat.le_trans hi.top (hab.box b x hb), fun b x hb => Nat.le_trans hi.top (hab.row b x hb), fun b x hb => Nat.le_trans hi.top (hab.obj b x hb)⟩
  exact ⟨r', v, _, _, rfl, h2.flatAny h5, j1, j2, S', h7, hab', .join hi.wf hab', rfl⟩
end Go.Proofs.Ytkjbdldjfjkneaa.LF
