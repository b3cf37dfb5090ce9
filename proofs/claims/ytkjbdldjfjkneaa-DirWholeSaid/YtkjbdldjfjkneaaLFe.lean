/- The frame's operations that make memory, or write to it. -/
import Derived.Test.YtkjbdldjfjkneaaLFc
import Derived.Maps.AppendAt
import Derived.Laws.IdiomCopy
set_option linter.unusedVariables false
set_option linter.unusedSimpArgs false
namespace Go.Proofs.Ytkjbdldjfjkneaa.LF
open Go.RowKit

theorem heap_old (w : World) (o : Obj) {b : Nat} (h : b < w.heap.size) : (w.alloc o).heap[b]? = w.heap[b]? := Below.heap_alloc w o b h

theorem Ext.alloc {G : Ctx} {S : LS} {K : Kept} {w : World} (h : Inv G S K w) (o : Obj) : Ext K w K (w.alloc o) where
  kept := fun b j hk => by
    obtain ⟨v, hv⟩ := h.live b j hk
    have := World.block_lt_of_cell? w _ hv
    exact ⟨hk, World.cell?_alloc_lt w o ⟨b, j, none⟩ this⟩
  shape := fun b s hs => by
    have hlt : b < w.heap.size := by
      rcases Nat.lt_or_ge b w.heap.size with h' | h'
      · exact h'
      · simp [World.shape?, Array.getElem?_eq_none h'] at hs
    unfold World.shape? at *
    rw [heap_old w o hlt]; exact hs
  size := by simp
  marks := fun b hb => by rw [heap_old w o (Array.getElem?_eq_some_iff.1 hb).1]; exact hb

theorem notKept_new {G : Ctx} {S : LS} {K : Kept} {w : World} (h : Inv G S K w) (j : Nat) : ¬ K w.heap.size j := fun hk => by
  obtain ⟨v, hv⟩ := h.live _ _ hk
  have := World.block_lt_of_cell? w _ hv
  simp at this

theorem Inv.alloc {G : Ctx} {S : LS} {K : Kept} {w : World} (h : Inv G S K w) (o : Obj) : Inv G S K (w.alloc o) where
  below := h.below.alloc h.base o
  base := by have := h.base; simp; omega
  live := fun b j hk => by
    obtain ⟨v, hv⟩ := h.live b j hk
    exact ⟨v, by rw [World.cell?_alloc_lt w o _ (World.block_lt_of_cell? w _ hv)]; exact hv⟩
  box := fun b cs hb => by
    obtain ⟨h1, h2, c, T, h3, h4, h5, h6⟩ := h.box b cs hb
    have := h.top
    exact ⟨h1, h2, c, T, by rw [heap_old w o (by omega)]; exact h3, h4, fun j x v hj hv => (h5 j x v hj hv).mono (.alloc h o), h6⟩
  row := fun b T n hr => by
    obtain ⟨h1, h2, h3, c, h4, h5⟩ := h.row b T n hr
    have := h.top
    exact ⟨h1, h2, h3, c, by rw [heap_old w o (by omega)]; exact h4, h5⟩
  obj := fun b o' hb => by
    obtain ⟨h1, h2, h3, h4⟩ := h.obj b o' hb
    exact ⟨h1, h2, by rw [heap_old w o (Array.getElem?_eq_some_iff.1 h3).1]; exact h3, h4⟩
  top := by have := h.top; simp; omega
  since := G.stable _ _ _ _ h.since (.alloc h o)

def LS.newBox (S : LS) (b : Nat) (cs : List LV) : LS := { S with box := fun x => bif Nat.beq x b then some cs else S.box x, top := b + 1 }
def LS.setBox (S : LS) (b : Nat) (cs : List LV) : LS := { S with box := fun x => bif Nat.beq x b then some cs else S.box x }
def LS.newRow (S : LS) (b : Nat) (T : TypeId) (n : Nat) : LS := { S with row := fun x => bif Nat.beq x b then some (T, n) else S.row x, top := b + 1 }

theorem beq_cases {α : Type} (x b : Nat) (u v : α) : (x = b ∧ (bif Nat.beq x b then u else v) = u) ∨ (x ≠ b ∧ (bif Nat.beq x b then u else v) = v) := by
  by_cases h : x = b
  · subst h; left; simp
  · right
    have : Nat.beq x b = false := by cases hb : Nat.beq x b with
      | false => rfl
      | true => exact absurd (Nat.eq_of_beq_eq_true hb) h
    simp [h, this]

theorem Inv.newBox {G : Ctx} {S : LS} {K : Kept} {w : World} (h : Inv G S K w) (c : Array Value) (T : TypeId) (cs : List LV) (hs : c.size = cs.length)
    (hr : ∀ (j : Nat) x v, cs[j]? = some x → c[j]? = some v → Rep G w K x v) : Inv G (S.newBox w.heap.size cs) K (w.alloc (.cells c T)) := by
  have ha := h.alloc (.cells c T)
  refine { ha with box := fun b cs' hb => ?_, row := fun b T' n hb => ?_, obj := fun b o hb => ?_, top := by simp [LS.newBox] }
  · simp only [LS.newBox] at hb ⊢
    rcases beq_cases b w.heap.size (some cs) (S.box b) with ⟨rfl, e⟩ | ⟨hne, e⟩
    · rw [e] at hb
      obtain rfl : cs = cs' := by simpa using hb
      exact ⟨h.base, by omega, c, T, heap_alloc_new w _, hs, fun j x v hj hv => (hr j x v hj hv).mono (.alloc h _), notKept_new h⟩
    · rw [e] at hb
      obtain ⟨h1, h2, h3⟩ := ha.box b cs' hb
      have := h.top
      exact ⟨h1, by omega, h3⟩
  · have hb' : S.row b = some (T', n) := hb
    obtain ⟨h1, h2, h3, h4⟩ := ha.row b T' n hb'
    have := h.top
    refine ⟨h1, by simp only [LS.newBox]; omega, ?_, h4⟩
    simp only [LS.newBox]
    rcases beq_cases b w.heap.size (some cs) (S.box b) with ⟨rfl, e⟩ | ⟨_, e⟩
    · omega
    · rw [e]; exact h3
  · have hb' : S.obj b = some o := hb
    obtain ⟨h1, h2, h3⟩ := ha.obj b o hb'
    have := h.top
    exact ⟨h1, by simp only [LS.newBox]; omega, h3⟩

/-- The cells of a value. -/
def tcells : TV → Option (List LV)
  | .one x => some [x]
  | .agg l => some l
  | _ => none

theorem RepT.cells {G : Ctx} {w : World} {K : Kept} {r : TV} {v : Value} {l : List LV} (h : RepT G w K r v) (hl : tcells r = some l) : v.cells.size = l.length ∧ ∀ (j : Nat) x u, l[j]? = some x → v.cells[j]? = some u → Rep G w K x u := by
  cases h with
  | one h =>
    obtain rfl : [_] = l := by simpa [tcells] using hl
    have : v.cells = #[v] := by cases h <;> first | rfl | (rename_i h1; cases v <;> first | rfl | (simp [Value.oneCell'] at h1))
    rw [this]
    refine ⟨rfl, fun j x u hj hu => ?_⟩
    cases j with
    | zero => simp at hj hu; subst hj; subst hu; exact h
    | succ j => simp at hj
  | agg l' vs hs h =>
    obtain rfl : l' = l := by simpa [tcells] using hl
    exact ⟨hs, h⟩
  | _ => simp [tcells] at hl

theorem Rep.oneCell {G : Ctx} {w : World} {K : Kept} {x : LV} {v : Value} (h : Rep G w K x v) : v.oneCell' = true := by
  cases h <;> first | rfl | assumption

theorem LDo.of_run {G : Ctx} {o : Oper} {T : Nat → TV} {S : LS} {R : TV → LS → Prop}
    (h : ∀ (K : Kept) (w : World) (a : Act), Inv G S K w → (∀ x ∈ o.op.operands, RepT G w K (lev T x) (a.eval x)) → ∃ r v S' K' w', (execOp a.eval o).run G.P w = .ok (.value v) w' ∧ RepT G w' K' r v ∧ Inv G S' K' w' ∧ Ext K w K' w' ∧ R r S') : LDo G o T S R := by
  intro K w a hi hr
  obtain ⟨r, v, S', K', w', h1, h2, h3, h4, h5⟩ := h K w a hi hr
  unfold Oper.wp
  rw [h1]
  exact ⟨r, v, S', K', rfl, h2, h3, h4, h5⟩

/-- A logical memory in which each block lies below its end. -/
structure LS.wf (S : LS) : Prop where
  box : ∀ b, S.top ≤ b → S.box b = none
  row : ∀ b, S.top ≤ b → S.row b = none
  obj : ∀ b, S.top ≤ b → S.obj b = none

theorem Inv.wf {G : Ctx} {S : LS} {K : Kept} {w : World} (h : Inv G S K w) : S.wf := by
  refine ⟨fun b hb => ?_, fun b hb => ?_, fun b hb => ?_⟩
  · cases hq : S.box b with
    | none => rfl
    | some cs => have := (h.box b cs hq).2.1; omega
  · cases hq : S.row b with
    | none => rfl
    | some x => have := (h.row b x.1 x.2 hq).2.1; omega
  · cases hq : S.obj b with
    | none => rfl
    | some x => have := (h.obj b x hq).2.1; omega

theorem Inv.wf' {G : Ctx} {S : LS} {K : Kept} {w : World} (h : Inv G S K w) : (∀ b, S.top ≤ b → S.box b = none) ∧ (∀ b, S.top ≤ b → S.row b = none) := ⟨h.wf.box, h.wf.row⟩

/-- A block that is not yet. -/
structure LS.fresh (S : LS) (b : Nat) : Prop where
  top : S.top ≤ b
  box : S.box b = none
  row : S.row b = none
  obj : S.obj b = none

theorem Inv.fresh {G : Ctx} {S : LS} {K : Kept} {w : World} (h : Inv G S K w) : S.fresh w.heap.size := ⟨h.top, h.wf.box _ h.top, h.wf.row _ h.top, h.wf.obj _ h.top⟩

/-- A new variable. -/
theorem LDo.alloc {G : Ctx} {D : Tab} (hD : TabOK G.P D) {o : Oper} {T : Nat → TV} {S : LS} {t : TypeId} {i : TI} (ho : o.op = .alloc t) (hi : D.get t = some i) (hz : i.zero.cells.toList.all Value.oneCell' = true) :
    LDo G o T S (fun r S' => ∃ b, S.fresh b ∧ r = .one (.v (.pointer (some ⟨b, 0, none⟩))) ∧ S' = S.newBox b (i.zero.cells.toList.map constLV)) :=
  .of_run fun K w a hi' hr => by
    have hrun : (execOp a.eval o).run G.P w = .ok (.value (.pointer (some ⟨w.heap.size, 0, none⟩))) (w.alloc (.cells i.zero.cells t)) := by
      simp [execOp, ho, Instr.alloc, run_zero' (hD.get hi), newVar, newRow]
    refine ⟨_, _, S.newBox w.heap.size (i.zero.cells.toList.map constLV), K, _, hrun, .raw rfl, hi'.newBox _ _ _ (by simp) (fun j x v hj hv => ?_), .alloc hi' _, w.heap.size, hi'.fresh, rfl, rfl⟩
    rw [List.getElem?_map] at hj
    have : i.zero.cells.toList[j]? = some v := by simpa using hv
    rw [this] at hj
    simp only [Option.map_some, Option.some.injEq] at hj
    subst hj
    exact constLV_rep G w K v (List.all_eq_true.1 hz v (List.mem_of_getElem? this))

/-- A variable with a value. -/
theorem LDo.box {G : Ctx} {o : Oper} {T : Nat → TV} {S : LS} {t : TypeId} {x : Operand} {l : List LV} (ho : o.op = .box t x) (hx : tcells (lev T x) = some l) :
    LDo G o T S (fun r S' => ∃ b, S.fresh b ∧ r = .one (.v (.pointer (some ⟨b, 0, none⟩))) ∧ S' = S.newBox b l) :=
  .of_run fun K w a hi' hr => by
    have h1 := hr x (by rw [ho]; simp [Op.operands])
    obtain ⟨h2, h3⟩ := h1.cells hx
    have hrun : (execOp a.eval o).run G.P w = .ok (.value (.pointer (some ⟨w.heap.size, 0, none⟩))) (w.alloc (.cells (a.eval x).cells t)) := by
      simp [execOp, ho, Instr.box, newVar, newRow]
    exact ⟨_, _, S.newBox w.heap.size l, K, _, hrun, .raw rfl, hi'.newBox _ _ _ h2 h3, .alloc hi' _, w.heap.size, hi'.fresh, rfl, rfl⟩

/-- Cells put in the place of others. -/
def splice (cs : List LV) (off : Nat) (l : List LV) : List LV := cs.take off ++ l ++ cs.drop (off + l.length)

theorem splice_length {cs l : List LV} {off : Nat} (h : off + l.length ≤ cs.length) : (splice cs off l).length = cs.length := by
  simp [splice]; omega

theorem splice_get {cs l : List LV} {off : Nat} (h : off + l.length ≤ cs.length) (j : Nat) : (splice cs off l)[j]? = if j < off then cs[j]? else if j < off + l.length then l[j - off]? else cs[j]? := by
  unfold splice
  rw [List.append_assoc]
  by_cases h1 : j < off
  · rw [if_pos h1, List.getElem?_append_left (by simp; omega), List.getElem?_take, if_pos h1]
  · rw [if_neg h1, List.getElem?_append_right (by simp; omega)]
    rw [List.length_take, Nat.min_eq_left (by omega)]
    by_cases h2 : j < off + l.length
    · rw [if_pos h2, List.getElem?_append_left (by omega)]
    · rw [if_neg h2, List.getElem?_append_right (by omega), List.getElem?_drop]
      congr 1; omega

theorem Inv.setBox {G : Ctx} {S : LS} {K : Kept} {w : World} (h : Inv G S K w) {b : Nat} {cs : List LV} (hb : S.box b = some cs) {off : Nat} {l : List LV} (hl : off + l.length ≤ cs.length)
    {vs : List Value} (hv : vs.length = l.length) (hrep : ∀ (j : Nat) x v, l[j]? = some x → vs[j]? = some v → Rep G w K x v) (c : Array Value) (T : TypeId) (hc : w.heap[b]? = some (.cells c T (0, 0))) :
    Inv G (S.setBox b (splice cs off l)) K (w.setRow b (c.toList.take off ++ vs ++ c.toList.drop (off + vs.length)).toArray) ∧ Ext K w K (w.setRow b (c.toList.take off ++ vs ++ c.toList.drop (off + vs.length)).toArray) := by
  obtain ⟨b1, b2, c', T', b3, b4, b5, b6⟩ := h.box b cs hb
  rw [hc] at b3
  obtain ⟨rfl, rfl⟩ : c = c' ∧ T = T' := by simpa using b3
  generalize hc2 : (c.toList.take off ++ vs ++ c.toList.drop (off + vs.length)).toArray = c2
  have hsz : c2.size = c.size := by rw [← hc2]; simp; omega
  have hget : ∀ j : Nat, c2[j]? = if j < off then c[j]? else if j < off + l.length then vs[j - off]? else c[j]? := by
    intro j
    rw [← hc2, List.getElem?_toArray, List.append_assoc]
    by_cases h1 : j < off
    · rw [if_pos h1, List.getElem?_append_left (by simp; omega), List.getElem?_take, if_pos h1]; simp
    · rw [if_neg h1, List.getElem?_append_right (by simp; omega)]
      rw [List.length_take, Nat.min_eq_left (by simp; omega)]
      by_cases h2 : j < off + l.length
      · rw [if_pos h2, List.getElem?_append_left (by omega)]
      · rw [if_neg h2, List.getElem?_append_right (by omega), List.getElem?_drop]
        simp only [Array.getElem?_toList]
        congr 1; omega
  have hother : ∀ k, k ≠ b → (w.setRow b c2).heap[k]? = w.heap[k]? := fun k hk => setRow_other w b k c2 hk
  have hsame : (w.setRow b c2).heap[b]? = some (.cells c2 T (0, 0)) := setRow_heap w b c c2 T (0, 0) hc
  have hx : Ext K w K (w.setRow b c2) := by
    refine ⟨fun k j hk => ⟨hk, ?_⟩, fun k s hs => ?_, by simp, fun k hk => ?_⟩
    · have : k ≠ b := fun e => b6 j (e ▸ hk)
      exact World.cell?_of_block (a := ⟨k, j, none⟩) (hother k this)
    · by_cases e : k = b
      · subst e
        simp only [World.shape?, hc, hsame, hsz] at hs ⊢
        exact hs
      · simp only [World.shape?, hother k e] at hs ⊢
        exact hs
    · have : k ≠ b := fun e => by subst e; rw [hc] at hk; cases hk
      rw [hother k this]; exact hk
  refine ⟨⟨?_, ?_, fun k j hk => ?_, fun k cs' hk => ?_, fun k T' n hk => ?_, fun k o hk => ?_, ?_, G.stable _ _ _ _ h.since hx⟩, hx⟩
  · exact h.below.trans ⟨rfl, rfl, rfl, by simp, fun k hk => hother k (by omega)⟩
  · simpa using h.base
  · obtain ⟨v, hv⟩ := h.live k j hk
    exact ⟨v, by rw [(hx.kept k j hk).2]; exact hv⟩
  · simp only [LS.setBox] at hk ⊢
    rcases beq_cases k b (some (splice cs off l)) (S.box k) with ⟨rfl, e⟩ | ⟨hne, e⟩
    · rw [e] at hk
      obtain rfl : splice cs off l = cs' := by simpa using hk
      refine ⟨b1, b2, c2, T, hsame, by rw [hsz, b4, splice_length hl], fun j x v hj hv => ?_, b6⟩
      rw [splice_get hl] at hj
      rw [hget] at hv
      split at hj
      · exact (b5 j x v hj (by simpa [*] using hv)).mono hx
      · rename_i n1
        rw [if_neg n1] at hv
        split at hj
        · rename_i p1; rw [if_pos p1] at hv; exact (hrep _ _ _ hj hv).mono hx
        · rename_i p1; rw [if_neg p1] at hv; exact (b5 j x v hj hv).mono hx
    · rw [e] at hk
      obtain ⟨h1, h2, c3, T3, h3, h4, h5, h6⟩ := h.box k cs' hk
      exact ⟨h1, h2, c3, T3, by rw [hother k hne]; exact h3, h4, fun j x v hj hv => (h5 j x v hj hv).mono hx, h6⟩
  · obtain ⟨h1, h2, h3, c3, h4, h5⟩ := h.row k T' n hk
    have hne : k ≠ b := fun e => by subst e; rw [hb] at h3; cases h3
    refine ⟨h1, h2, ?_, c3, by rw [hother k hne]; exact h4, h5⟩
    simp only [LS.setBox]
    rcases beq_cases k b (some (splice cs off l)) (S.box k) with ⟨e, _⟩ | ⟨_, e⟩
    · exact absurd e hne
    · rw [e]; exact h3
  · have hk' : S.obj k = some o := hk
    obtain ⟨h1, h2, h3, h4⟩ := h.obj k o hk'
    have : k ≠ b := fun e => by
      subst e
      rw [hc] at h3
      obtain rfl : Obj.cells c T (0, 0) = o := by simpa using h3
      simp [Obj.isCells] at h4
    exact ⟨h1, h2, by rw [hother k this]; exact h3, h4⟩
  · have := h.top
    simpa [LS.setBox] using this

/-- A store into a block that may be written. -/
theorem LDo.store {G : Ctx} {D : Tab} (hD : TabOK G.P D) {o : Oper} {T : Nat → TV} {S : LS} {t : TypeId} {p x : Operand} {b off : Nat} {cs l : List LV} {i : TI} (ho : o.op = .store t p x)
    (hp : lev T p = .one (.v (.pointer (some ⟨b, off, none⟩)))) (hb : S.box b = some cs) (hx : tcells (lev T x) = some l) (hi : D.get t = some i) (hn' : Nat.beq l.length i.size = true) (hl' : Nat.ble (off + l.length) cs.length = true) :
    LDo G o T S (fun r S' => r = .any ∧ S' = S.setBox b (splice cs off l)) := by
  have hn : l.length = i.size := Nat.eq_of_beq_eq_true hn'
  have hl : off + l.length ≤ cs.length := Nat.le_of_ble_eq_true hl'
  intro K w a hi' hr
  have h1 := hr p (by rw [ho]; simp [Op.operands])
  have h2 := hr x (by rw [ho]; simp [Op.operands])
  rw [hp] at h1
  obtain ⟨e1, e2⟩ := h2.cells hx
  obtain ⟨c, T0, c1, c2, _⟩ := hi'.cells hb
  have h1c : ∀ v ∈ (a.eval x).cells.toList, v.oneCell' = true := by
    intro v hv
    obtain ⟨j, hj⟩ := List.getElem?_of_mem hv
    have hjl : j < l.length := by rw [← e1]; simpa using (List.getElem?_eq_some_iff.1 hj).1
    exact (e2 j _ v (List.getElem?_eq_getElem hjl) (by simpa using hj)).oneCell
  have hst := run_storeCells_at G.P b off T0 (a.eval x).cells.toList 0 c w c1 (by simp; omega) h1c
  have hrun : (execOp a.eval o).run G.P w = .ok .skip (w.setRow b (c.toList.take off ++ (a.eval x).cells.toList ++ c.toList.drop (off + (a.eval x).cells.toList.length)).toArray) := by
    have hne : (a.eval x).cells.size = i.size := by omega
    simp only [Nat.add_zero] at hst
    simp [execOp, ho, h1.flat, Instr.storeAt, Instr.sureAddr, storeVar, run_sizeOf' (hD.get hi), hne, hst]
  obtain ⟨j1, j2⟩ := hi'.setBox hb hl (vs := (a.eval x).cells.toList) (by simpa using e1) (fun j x v hj hv => e2 j x v hj (by simpa using hv)) c T0 c1
  unfold Oper.wp
  rw [hrun]
  exact ⟨.any, undef, _, K, rfl, .any _, j1, j2, rfl, rfl⟩

/-- A call that may turn the logical memory. -/
theorem LDo.call {G : Ctx} {o : Oper} {T : Nat → TV} {S : LS} {f : FuncId} {fn : Func} {xs : List Operand} {ts : Array TypeId} {args : List TV} {R : TV → LS → Prop}
    (ho : o.op = .call { callee := .value (.func f), args := xs.toArray, argTypes := ts }) (hx : xs.map (fun x => shTV (lev T x)) = args) (hf : G.P.funcs[f]? = some fn) (hb : fn.body.isSome = true) (hn : fn.name ≠ "runtime.NumGoroutine")
    (h : LCalls G f args R S) : LDo G o T S R := by
  intro K w a hi hr
  have hrun : (execOp a.eval o).run G.P w = .ok (.enter f (xs.map a.eval).toArray) w := by
    have hbn : fn.body ≠ none := fun e => by rw [e] at hb; cases hb
    simp [execOp, ho, resolve, Act.eval, Deferred.ofValue, invoke, callFunc, hf, hn, hbn]
  unfold Oper.wp
  rw [hrun]
  refine (h K w _ hi ⟨by rw [← hx]; simp, fun i x v hx' hv => ?_⟩).mono fun e w' hp => ?_
  · subst hx
    rw [List.getElem?_map] at hx'
    rw [List.getElem?_toArray, List.getElem?_map] at hv
    cases hq : xs[i]? with
    | none => rw [hq] at hx'; simp at hx'
    | some y =>
      rw [hq] at hx' hv
      simp only [Option.map_some, Option.some.injEq] at hx' hv
      subst hx'; subst hv
      exact (hr y (by rw [ho]; simp [Op.operands, Call.operands]; exact .inr (List.mem_of_getElem? hq))).shTV
  · obtain ⟨r', v, S', K', rfl, h2, h3, h4, h5⟩ := hp
    exact ⟨r', v, S', K', rfl, h2, h3, h4, h5⟩

/-- A smaller logical memory. -/
structure LS.le (S S' : LS) : Prop where
  box : ∀ b cs, S.box b = some cs → S'.box b = some cs
  row : ∀ b x, S.row b = some x → S'.row b = some x
  obj : ∀ b x, S.obj b = some x → S'.obj b = some x
  top : S.top ≤ S'.top

theorem LS.le.refl (S : LS) : S.le S := ⟨fun _ _ h => h, fun _ _ h => h, fun _ _ h => h, Nat.le_refl _⟩
theorem LS.le.trans {S S' S'' : LS} (h : S.le S') (k : S'.le S'') : S.le S'' := ⟨fun b cs hb => k.box b cs (h.box b cs hb), fun b x hb => k.row b x (h.row b x hb), fun b x hb => k.obj b x (h.obj b x hb), Nat.le_trans h.top k.top⟩

/-- Forgetting what a call made for itself. -/
theorem Inv.forget {G : Ctx} {S S' : LS} {K : Kept} {w : World} (h : Inv G S' K w) (hle : S.le S') (hwf : S.wf) (hrow : ∀ b x, S.row b = some x → S.box b = none) : Inv G S K w where
  below := h.below
  base := h.base
  live := h.live
  box := fun b cs hb => by
    obtain ⟨h1, _, h2⟩ := h.box b cs (hle.box b cs hb)
    refine ⟨h1, ?_, h2⟩
    rcases Nat.lt_or_ge b S.top with h' | h'
    · exact h'
    · rw [hwf.box b h'] at hb; cases hb
  row := fun b T n hb => by
    obtain ⟨h1, _, _, h2⟩ := h.row b T n (hle.row b _ hb)
    refine ⟨h1, ?_, hrow b _ hb, h2⟩
    rcases Nat.lt_or_ge b S.top with h' | h'
    · exact h'
    · rw [hwf.row b h'] at hb; cases hb
  obj := fun b o hb => by
    obtain ⟨h1, _, h2⟩ := h.obj b o (hle.obj b _ hb)
    refine ⟨h1, ?_, h2⟩
    rcases Nat.lt_or_ge b S.top with h' | h'
    · exact h'
    · rw [hwf.obj b h'] at hb; cases hb
  top := Nat.le_trans hle.top h.top
  since := h.since

theorem LCalls.forget {G : Ctx} {f : FuncId} {args : List TV} {Q : TV → LS → Prop} {S : LS} (h : LCalls G f args (fun r S' => S.le S' ∧ Q r S) S) : LCalls G f args (fun r S' => S' = S ∧ Q r S) S := by
  intro K w vals h1 h2
  refine (h K w vals h1 h2).mono fun e w' hp => ?_
  obtain ⟨r, v, S', K', e1, e2, e3, e4, e5, e6⟩ := hp
  exact ⟨r, v, S, K', e1, e2, e3.forget e5 h1.wf (fun b x hb => (h1.row b x.1 x.2 hb).2.2.1), e4, rfl, e6⟩

theorem LFun.of {G : Ctx} {f : FuncId} {args : List TV} {r : TV} (h : ∀ S, LCalls G f args (fun r' S' => r' = r ∧ S.le S') S) : LFun G f args r := fun S => by
  have h1 : LCalls G f args (fun r' S' => S.le S' ∧ r' = r) S := fun K w vals a b => (h S K w vals a b).mono fun e w' hp => by
    obtain ⟨r', v, S', K', e1, e2, e3, e4, e5, e6⟩ := hp
    exact ⟨r', v, S', K', e1, e2, e3, e4, e6, e5⟩
  intro K w vals a b
  refine (LCalls.forget (Q := fun r' _ => r' = r) h1 K w vals a b).mono fun e w' hp => ?_
  obtain ⟨r', v, S', K', e1, e2, e3, e4, e5, e6⟩ := hp
  exact ⟨r', v, S', K', e1, e2, e3, e4, e6, e5⟩

theorem LS.le.newBox {S S' : LS} (h : S.le S') {b : Nat} (hb : S'.fresh b) (cs : List LV) : S.le (S'.newBox b cs) := by
  refine ⟨fun x cs' hx => ?_, fun x y hx => h.row x y hx, fun x y hx => h.obj x y hx, by have := h.top; have := hb.top; simp only [LS.newBox]; omega⟩
  have h1 := h.box x cs' hx
  simp only [LS.newBox]
  rcases beq_cases x b (some cs) (S'.box x) with ⟨rfl, _⟩ | ⟨_, e⟩
  · rw [hb.box] at h1; cases h1
  · rw [e]; exact h1

theorem LS.le.newRow {S S' : LS} (h : S.le S') {b : Nat} (hb : S'.fresh b) (T : TypeId) (n : Nat) : S.le (S'.newRow b T n) := by
  refine ⟨fun x cs' hx => h.box x cs' hx, fun x y hx => ?_, fun x y hx => h.obj x y hx, by have := h.top; have := hb.top; simp only [LS.newRow]; omega⟩
  have h1 := h.row x y hx
  simp only [LS.newRow]
  rcases beq_cases x b (some (T, n)) (S'.row x) with ⟨rfl, _⟩ | ⟨_, e⟩
  · rw [hb.row] at h1; cases h1
  · rw [e]; exact h1

theorem LS.le.setBox {S S' : LS} (h : S.le S') {b : Nat} (hb : S.box b = none) (cs : List LV) : S.le (S'.setBox b cs) := by
  refine ⟨fun x cs' hx => ?_, fun x y hx => h.row x y hx, fun x y hx => h.obj x y hx, h.top⟩
  have h1 := h.box x cs' hx
  simp only [LS.setBox]
  rcases beq_cases x b (some cs) (S'.box x) with ⟨rfl, _⟩ | ⟨_, e⟩
  · rw [hb] at hx; cases hx
  · rw [e]; exact h1

theorem box_new (S : LS) (b : Nat) (cs : List LV) : (S.newBox b cs).box b = some cs := by simp [LS.newBox]
theorem box_set (S : LS) (b : Nat) (cs : List LV) : (S.setBox b cs).box b = some cs := by simp [LS.setBox]
theorem box_new_ne (S : LS) {b b' : Nat} (cs : List LV) (h : b' ≠ b) : (S.newBox b cs).box b' = S.box b' := by
  simp only [LS.newBox]
  rcases beq_cases b' b (some cs) (S.box b') with ⟨e, _⟩ | ⟨_, e⟩
  · exact absurd e h
  · exact e
theorem box_set_ne (S : LS) {b b' : Nat} (cs : List LV) (h : b' ≠ b) : (S.setBox b cs).box b' = S.box b' := by
  simp only [LS.setBox]
  rcases beq_cases b' b (some cs) (S.box b') with ⟨e, _⟩ | ⟨_, e⟩
  · exact absurd e h
  · exact e
theorem box_row (S : LS) (b b' : Nat) (T : TypeId) (n : Nat) : (S.newRow b T n).box b' = S.box b' := rfl
theorem row_new (S : LS) (b : Nat) (T : TypeId) (n : Nat) : (S.newRow b T n).row b = some (T, n) := by simp [LS.newRow]
theorem row_box (S : LS) (b b' : Nat) (cs : List LV) : (S.newBox b cs).row b' = S.row b' := rfl
theorem row_set (S : LS) (b b' : Nat) (cs : List LV) : (S.setBox b cs).row b' = S.row b' := rfl
theorem row_new_ne (S : LS) {b b' : Nat} (T : TypeId) (n : Nat) (h : b' ≠ b) : (S.newRow b T n).row b' = S.row b' := by
  simp only [LS.newRow]
  rcases beq_cases b' b (some (T, n)) (S.row b') with ⟨e, _⟩ | ⟨_, e⟩
  · exact absurd e h
  · exact e
theorem fresh_ne {S : LS} {b b' : Nat} {cs : List LV} (h : S.fresh b) (h' : S.box b' = some cs) : b' ≠ b := fun e => by subst e; rw [h.box] at h'; cases h'

end Go.Proofs.Ytkjbdldjfjkneaa.LF
