/- The frame's literals of structs, arrays and slices; slices of slices and of strings. -/
import Derived.Test.YtkjbdldjfjkneaaLFf
set_option linter.unusedVariables false
set_option linter.unusedSimpArgs false
namespace Go.Proofs.Ytkjbdldjfjkneaa.LF
open Go.RowKit

/-- A literal's parts put into its zero. -/
def lfill (place : Nat → Option (Nat × Nat)) (cs : List LV) : List (Nat × List LV) → Option (List LV)
  | [] => some cs
  | (i, l) :: rest => match place i with
    | none => none
    | some (off, size) => bif Nat.beq l.length size && Nat.ble (off + l.length) cs.length then lfill place (splice cs off l) rest else none

theorem setRange (off : Nat) : ∀ (vs : List Value) (k0 : Nat) (cells : Array Value), off + k0 + vs.length ≤ cells.size →
    (((vs.zipIdx k0).foldl (fun cs (x : Value × Nat) => cs.setIfInBounds (off + x.2) x.1) cells).size = cells.size ∧ ∀ k : Nat, ((vs.zipIdx k0).foldl (fun cs (x : Value × Nat) => cs.setIfInBounds (off + x.2) x.1) cells)[k]? = if k < off + k0 then cells[k]? else if k < off + k0 + vs.length then vs[k - (off + k0)]? else cells[k]?) := by
  intro vs
  induction vs with
  | nil =>
    intro k0 cells _
    refine ⟨rfl, fun k => ?_⟩
    simp only [List.zipIdx_nil, List.foldl_nil, List.length_nil, Nat.add_zero]
    split <;> simp_all
  | cons v vs ih =>
    intro k0 cells h
    simp only [List.length_cons] at h
    simp only [List.zipIdx_cons, List.foldl_cons, List.length_cons]
    obtain ⟨h1, h2⟩ := ih (k0 + 1) (cells.setIfInBounds (off + k0) v) (by simp; omega)
    refine ⟨by rw [h1]; simp, fun k => ?_⟩
    rw [h2 k]
    by_cases c1 : k < off + k0
    · rw [if_pos (by omega), if_pos c1, Array.getElem?_setIfInBounds_ne (by omega)]
    · rw [if_neg c1]
      by_cases c2 : k = off + k0
      · subst c2
        rw [if_pos (by omega), if_pos (by omega), Nat.sub_self]
        simp only [List.getElem?_cons_zero]
        rw [Array.getElem?_setIfInBounds_self_of_lt (by omega)]
      · rw [if_neg (by omega)]
        by_cases c3 : k < off + (k0 + 1) + vs.length
        · rw [if_pos c3, if_pos (by omega)]
          rw [show k - (off + k0) = (k - (off + (k0 + 1))) + 1 by omega, List.getElem?_cons_succ]
        · rw [if_neg c3, if_neg (by omega), Array.getElem?_setIfInBounds_ne (by omega)]

theorem fill_rep {G : Ctx} {w : World} {K : Kept} {place : Nat → Option (Nat × Nat)} : ∀ (lp : List (Nat × List LV)) (rp : List (Nat × Value)) (cs cs' : List LV) (cells : Array Value), cells.size = cs.length →
    (∀ (j : Nat) x v, cs[j]? = some x → cells[j]? = some v → Rep G w K x v) → rp.length = lp.length →
    (∀ (k : Nat) i l i' v, lp[k]? = some (i, l) → rp[k]? = some (i', v) → i' = i ∧ v.cells.size = l.length ∧ ∀ (j : Nat) x u, l[j]? = some x → v.cells[j]? = some u → Rep G w K x u) →
    lfill place cs lp = some cs' → ∃ cells', Instr.fill place cells rp = some cells' ∧ cells'.size = cs'.length ∧ ∀ (j : Nat) x v, cs'[j]? = some x → cells'[j]? = some v → Rep G w K x v := by
  intro lp
  induction lp with
  | nil =>
    intro rp cs cs' cells hs hr hl _ hf
    obtain rfl : rp = [] := List.length_eq_zero_iff.1 hl
    obtain rfl : cs = cs' := by simpa [lfill] using hf
    exact ⟨cells, rfl, hs, hr⟩
  | cons p lp ih =>
    intro rp cs cs' cells hs hr hl hp hf
    obtain ⟨i, l⟩ := p
    cases rp with
    | nil => simp at hl
    | cons q rp =>
      obtain ⟨i', v⟩ := q
      obtain ⟨rfl, e1, e2⟩ := hp 0 i l i' v rfl rfl
      simp only [lfill] at hf
      simp only [Instr.fill]
      cases hpl : place i' with
      | none => rw [hpl] at hf; cases hf
      | some os =>
        obtain ⟨off, size⟩ := os
        rw [hpl] at hf
        simp only at hf ⊢
        cases hb : (Nat.beq l.length size && Nat.ble (off + l.length) cs.length) with
        | false => rw [hb] at hf; cases hf
        | true =>
          rw [hb] at hf
          simp only [cond_true] at hf
          rw [Bool.and_eq_true] at hb
          have b1 : l.length = size := Nat.eq_of_beq_eq_true hb.1
          have b2 : off + l.length ≤ cs.length := Nat.le_of_ble_eq_true hb.2
          rw [if_neg (by simp; omega)]
          have hfold : (v.cells.zipIdx.foldl (fun cs (x : Value × Nat) => cs.setIfInBounds (off + x.2) x.1) cells) = ((v.cells.toList.zipIdx 0).foldl (fun cs (x : Value × Nat) => cs.setIfInBounds (off + x.2) x.1) cells) := by
            rw [← Array.foldl_toList, Array.toList_zipIdx]
          obtain ⟨s1, s2⟩ := setRange off v.cells.toList 0 cells (by simp; omega)
          rw [← hfold] at s1 s2
          refine ih rp (splice cs off l) cs' _ (by rw [s1, splice_length b2]; exact hs) (fun j x u hj hu => ?_) (by simpa using hl) (fun k i2 l2 i3 v2 h1 h2 => hp (k + 1) i2 l2 i3 v2 h1 h2) hf
          rw [s2] at hu
          rw [splice_get b2] at hj
          simp only [Nat.add_zero, Array.length_toList] at hu
          by_cases c1 : j < off
          · rw [if_pos c1] at hu hj; exact hr j x u hj hu
          · rw [if_neg c1] at hu hj
            by_cases c2 : j < off + l.length
            · rw [if_pos (by omega)] at hu
              rw [if_pos c2] at hj
              exact e2 (j - off) x u hj (by simpa using hu)
            · rw [if_neg (by omega)] at hu
              rw [if_neg c2] at hj
              exact hr j x u hj hu

def lzero (i : TI) : List LV := i.zero.cells.toList.map constLV

theorem lzero_rep (G : Ctx) (w : World) (K : Kept) {i : TI} (hz : i.zero.cells.toList.all Value.oneCell' = true) : ∀ (j : Nat) x v, (lzero i)[j]? = some x → i.zero.cells[j]? = some v → Rep G w K x v := by
  intro j x v hj hv
  unfold lzero at hj
  rw [List.getElem?_map] at hj
  have : i.zero.cells.toList[j]? = some v := by simpa using hv
  rw [this] at hj
  simp only [Option.map_some, Option.some.injEq] at hj
  subst hj
  exact constLV_rep G w K v (List.all_eq_true.1 hz v (List.mem_of_getElem? this))

/-- The parts of a literal, as the slots hold them. -/
def lparts (T : Nat → TV) : List (Nat × Operand) → Option (List (Nat × List LV))
  | [] => some []
  | (i, x) :: rest => match tcells (lev T x), lparts T rest with
    | some l, some r => some ((i, l) :: r)
    | _, _ => none

theorem lparts_rep {G : Ctx} {w : World} {K : Kept} {T : Nat → TV} {a : Act} : ∀ (ps : List (Nat × Operand)) (lp : List (Nat × List LV)), (∀ p ∈ ps, RepT G w K (lev T p.2) (a.eval p.2)) → lparts T ps = some lp →
    (ps.map fun p => (p.1, a.eval p.2)).length = lp.length ∧ ∀ (k : Nat) i l i' v, lp[k]? = some (i, l) → (ps.map fun p => (p.1, a.eval p.2))[k]? = some (i', v) → i' = i ∧ v.cells.size = l.length ∧ ∀ (j : Nat) x u, l[j]? = some x → v.cells[j]? = some u → Rep G w K x u := by
  intro ps
  induction ps with
  | nil =>
    intro lp _ h
    obtain rfl : [] = lp := by simpa [lparts] using h
    exact ⟨rfl, by simp⟩
  | cons p ps ih =>
    intro lp hr h
    obtain ⟨i, x⟩ := p
    simp only [lparts] at h
    cases h1 : tcells (lev T x) with
    | none => rw [h1] at h; cases h
    | some l =>
      cases h2 : lparts T ps with
      | none => rw [h1, h2] at h; cases h
      | some r =>
        rw [h1, h2] at h
        obtain rfl : (i, l) :: r = lp := by simpa using h
        obtain ⟨i1, i2⟩ := ih r (fun p hp => hr p (List.mem_cons_of_mem _ hp)) h2
        refine ⟨by simpa using i1, fun k i' l' i'' v hk hv => ?_⟩
        cases k with
        | zero =>
          obtain ⟨rfl, rfl⟩ : i = i' ∧ l = l' := by simpa using hk
          obtain ⟨rfl, rfl⟩ : i = i'' ∧ a.eval x = v := by simpa using hv
          obtain ⟨c1, c2⟩ := (hr (i, x) (by simp)).cells h1
          exact ⟨rfl, c1, c2⟩
        | succ k => exact i2 k i' l' i'' v (by simpa using hk) (by simpa using hv)

/-- Where a struct's fields lie. -/
def fieldPlace? (D : Tab) (fs : List Field) (k : Nat) : Option (Nat × Nat) := match fs[k]? with
  | none => none
  | some f => match D.get f.type with
    | none => none
    | some j => some (f.offset, j.size)

theorem run_places {P : Program} {D : Tab} (hD : TabOK P D) {w : World} (fs : Array Field) (h : fs.toList.all (fun f => (D.get f.type).isSome) = true) :
    (fs.mapM fun f => do pure (f.offset, ← sizeOf f.type) : Sem (Array (Nat × Nat))).run P w = .ok (fs.map fun f => (f.offset, P.cellsOf f.type)) w := by
  have key : ∀ (l : List Field), l.all (fun f => (D.get f.type).isSome) = true → (l.mapM fun f => do pure (f.offset, ← sizeOf f.type) : Sem (List (Nat × Nat))).run P w = .ok (l.map fun f => (f.offset, P.cellsOf f.type)) w := by
    intro l
    induction l with
    | nil => intro _; simp
    | cons f l ih =>
      intro hl
      simp only [List.all_cons, Bool.and_eq_true] at hl
      obtain ⟨j, hj⟩ := Option.isSome_iff_exists.1 hl.1
      have ih := ih hl.2
      simp only [List.mapM_cons, Sem.run_bind, run_sizeOf' (hD.get hj), Result.andThen_ok, Sem.run_pure, ih, List.map_cons, cellsOf' (hD.get hj)]
  rw [Array.mapM_eq_mapM_toList, Sem.run_map, key fs.toList h]
  simp only [Result.andThen_ok]
  congr 1
  apply Array.ext'
  simp

theorem LVal.build {G : Ctx} {D : Tab} (hD : TabOK G.P D) {o : Oper} {T : Nat → TV} {S : LS} {t : TypeId} {ps : List (Nat × Operand)} {lp : List (Nat × List LV)} {l : List LV} {i : TI} {fs : Array Field} (ho : o.op = .build t ps.toArray)
    (hp : lparts T ps = some lp) (hi : D.get t = some i) (hd : i.desc = .struct fs) (hz : i.zero.cells.toList.all Value.oneCell' = true) (hfs : fs.toList.all (fun f => (D.get f.type).isSome) = true)
    (h : lfill (fieldPlace? D fs.toList) (lzero i) lp = some l) : LVal G o T S (.agg l) :=
  .of_run fun K w ac hi' hr => by
    have e1 := (hD.get hi).und
    rw [hd] at e1
    obtain ⟨p1, p2⟩ := lparts_rep (G := G) (w := w) (K := K) (T := T) (a := ac) ps lp (fun p hp => hr p.2 (by rw [ho]; simp only [Op.operands]; simp only [List.mem_toArray, List.mem_map]; exact ⟨p, by simpa using hp, rfl⟩)) hp
    have hpl : (fun k => (fs.map fun f => (f.offset, G.P.cellsOf f.type))[k]?) = fieldPlace? D fs.toList := by
      funext k
      unfold fieldPlace?
      rw [Array.getElem?_map, ← Array.getElem?_toList]
      cases hk : fs.toList[k]? with
      | none => rfl
      | some f =>
        have hm := List.mem_of_getElem? hk
        obtain ⟨j, hj⟩ := Option.isSome_iff_exists.1 (List.all_eq_true.1 hfs f hm)
        simp [hj, cellsOf' (hD.get hj)]
    obtain ⟨cells', f1, f2, f3⟩ := fill_rep lp (ps.map fun p => (p.1, ac.eval p.2)) (lzero i) l i.zero.cells (by simp [lzero]) (lzero_rep G w K hz) p1 p2 h
    refine ⟨.agg cells', ?_, .agg _ _ f2 f3⟩
    rw [← hpl] at f1
    simp only [execOp, ho, Instr.build, Sem.run_bind, run_zero' (hD.get hi), Result.andThen_ok, run_underlying e1, run_places hD fs hfs, List.map_toArray]
    have hmap : (List.map (fun x : Nat × Operand => match x with | (i, x) => (i, ac.eval x)) ps) = ps.map fun p => (p.1, ac.eval p.2) := rfl
    rw [hmap, f1]
    simp

/-- Elements of one size. -/
def chunks (z : Nat) (l : List LV) : Nat → List (List LV)
  | 0 => []
  | n + 1 => l.take z :: chunks z (l.drop z) n

theorem chunks_length (z : Nat) : ∀ (n : Nat) (l : List LV), (chunks z l n).length = n := by
  intro n
  induction n with
  | zero => intro l; rfl
  | succ n ih => intro l; simp [chunks, ih]

theorem chunks_get (z : Nat) : ∀ (n : Nat) (l : List LV) (i : Nat), i < n → (chunks z l n)[i]? = some ((l.drop (i * z)).take z) := by
  intro n
  induction n with
  | zero => intro l i h; omega
  | succ n ih =>
    intro l i h
    cases i with
    | zero => simp [chunks]
    | succ i =>
      simp only [chunks, List.getElem?_cons_succ]
      rw [ih _ i (by omega), List.drop_drop]
      congr 3
      rw [Nat.add_mul]; omega

theorem Flat.ofCells {G : Ctx} {w : World} {K : Kept} {z n : Nat} {l : List LV} {vs : List Value} (hl : l.length = n * z) (hs : vs.length = l.length) (hr : ∀ (j : Nat) x v, l[j]? = some x → vs[j]? = some v → Rep G w K x v) : Flat G w K z (chunks z l n) vs := by
  refine ⟨by rw [chunks_length, hs, hl], fun e he => ?_, fun i j x hx => ?_⟩
  · obtain ⟨i, hi⟩ := List.getElem?_of_mem he
    have hlt := (List.getElem?_eq_some_iff.1 hi).1
    rw [chunks_length] at hlt
    rw [chunks_get z n l i hlt] at hi
    obtain rfl : List.take z (List.drop (i * z) l) = e := by simpa using hi
    have := Nat.mul_le_mul_right z (Nat.succ_le_of_lt hlt)
    rw [Nat.succ_mul] at this
    simp; omega
  · unfold cellOf at hx
    cases he : (chunks z l n)[i]? with
    | none => rw [he] at hx; cases hx
    | some e =>
      rw [he] at hx
      have hlt := (List.getElem?_eq_some_iff.1 he).1
      rw [chunks_length] at hlt
      rw [chunks_get z n l i hlt] at he
      obtain rfl : List.take z (List.drop (i * z) l) = e := by simpa using he
      simp only [Option.bind_some] at hx
      rw [List.getElem?_take] at hx
      split at hx
      · rw [List.getElem?_drop] at hx
        have hq := (List.getElem?_eq_some_iff.1 hx).1
        exact ⟨vs[i * z + j]'(by omega), List.getElem?_eq_getElem (by omega), hr _ _ _ hx (List.getElem?_eq_getElem (by omega))⟩
      · cases hx

/-- A slice literal's cells. -/
def sliceZero (j : TI) (n : Nat) : List LV := (List.range (n * j.size)).map fun q => (lzero j).getD (q % j.size) (.v (.bool false))

theorem run_buildSlice {G : Ctx} {D : Tab} (hD : TabOK G.P D) {o : Oper} {T : Nat → TV} {t e : TypeId} {n : Nat} {ps : List (Nat × Operand)} {lp : List (Nat × List LV)} {l : List LV} {i j : TI} (ho : o.op = .buildSlice t n ps.toArray)
    (hp : lparts T ps = some lp) (hi : D.get t = some i) (hd : i.desc = .slice e) (hj : D.get e = some j) (hsz : Nat.blt 0 j.size = true) (hzs : j.zero.cells.size = j.size) (hz : j.zero.cells.toList.all Value.oneCell' = true) (hbig : Nat.ble (n * j.size) 16777216 = true)
    (h : lfill (fun k => some (k * j.size, j.size)) (sliceZero j n) lp = some l) {K : Kept} {w : World} {ac : Act} (hr : ∀ x ∈ o.op.operands, RepT G w K (lev T x) (ac.eval x)) :
    ∃ c : Array Value, (execOp ac.eval o).run G.P w = .ok (.value (.slice (some ⟨w.heap.size, 0, none⟩) n n)) (w.alloc (.cells c e)) ∧ c.size = n * j.size ∧ Flat G w K j.size (chunks j.size l n) c.toList := by
  have e1 := (hD.get hi).und
  rw [hd] at e1
  have hsz' : 0 < j.size := by simpa [Nat.blt_eq] using hsz
  have hbig' : ¬ (n * j.size > 16777216) := by have := Nat.le_of_ble_eq_true hbig; omega
  obtain ⟨p1, p2⟩ := lparts_rep (G := G) (w := w) (K := K) (T := T) (a := ac) ps lp (fun p hp => hr p.2 (by rw [ho]; simp only [Op.operands]; simp only [List.mem_toArray, List.mem_map]; exact ⟨p, by simpa using hp, rfl⟩)) hp
  obtain ⟨zc, hzc⟩ : ∃ zc : Array Value, zc = (Array.range (n * j.size)).map (j.zero.cells[· % j.zero.cells.size]!) := ⟨_, rfl⟩
  obtain ⟨cells', f1, f2, f3⟩ := fill_rep (G := G) (w := w) (K := K) (place := fun k => some (k * j.size, j.size)) lp (ps.map fun p => (p.1, ac.eval p.2)) (sliceZero j n) l zc (by rw [hzc]; simp [sliceZero]) (fun q x v hq hv => by
      have hlt := (List.getElem?_eq_some_iff.1 hq).1
      simp only [sliceZero, List.length_map, List.length_range] at hlt
      have hm : q % j.size < j.zero.cells.size := by rw [hzs]; exact Nat.mod_lt _ hsz'
      rw [hzc, Array.getElem?_map, Array.getElem?_range, if_pos hlt] at hv
      simp only [Option.map_some, Option.some.injEq] at hv
      rw [hzs, getElem!_pos j.zero.cells (q % j.size) hm] at hv
      unfold sliceZero at hq
      rw [List.getElem?_map, List.getElem?_range hlt] at hq
      simp only [Option.map_some, Option.some.injEq] at hq
      have hl : (lzero j)[q % j.size]? = some x := by
        rw [List.getD_eq_getElem?_getD, List.getElem?_eq_getElem (by simp [lzero]; omega)] at hq
        rw [List.getElem?_eq_getElem (by simp [lzero]; omega)]
        simpa using hq
      exact lzero_rep G w K hz _ x v hl (by rw [Array.getElem?_eq_getElem hm, hv])) p1 p2 h
  have hll : l.length = n * j.size := by
    have : ∀ (lp : List (Nat × List LV)) (cs cs' : List LV) (pl : Nat → Option (Nat × Nat)), lfill pl cs lp = some cs' → cs'.length = cs.length := by
      intro lp
      induction lp with
      | nil => intro cs cs' pl h; obtain rfl : cs = cs' := by simpa [lfill] using h
               rfl
      | cons p lp ih =>
        intro cs cs' pl h
        obtain ⟨i, l⟩ := p
        simp only [lfill] at h
        cases hpl : pl i with
        | none => rw [hpl] at h; cases h
        | some os =>
          rw [hpl] at h
          simp only at h
          cases hb : (Nat.beq l.length os.2 && Nat.ble (os.1 + l.length) cs.length) with
          | false => rw [hb] at h; cases h
          | true =>
            rw [hb] at h
            rw [Bool.and_eq_true] at hb
            rw [ih _ _ _ h, splice_length (Nat.le_of_ble_eq_true hb.2)]
    rw [this _ _ _ _ h]; simp [sliceZero]
  refine ⟨cells', ?_, by rw [f2, hll], Flat.ofCells hll (by simpa using f2) (fun q x v hq hv => f3 q x v hq (by simpa using hv))⟩
  have hmap : (List.map (fun x : Nat × Operand => match x with | (i, x) => (i, ac.eval x)) ps) = ps.map fun p => (p.1, ac.eval p.2) := rfl
  simp only [execOp, ho, Instr.buildSlice, Sem.run_bind, run_underlying e1, Result.andThen_ok, run_sizeOf' (hD.get hj), hbig', if_false, List.map_toArray, hmap, show (2 : Nat) ^ 24 = 16777216 from rfl]
  by_cases hn : n * j.size = 0
  · have hz0 : zc = (Array.range (n * j.size)).map ((#[] : Array Value)[· % (#[] : Array Value).size]!) := by rw [hzc, hn]; simp
    rw [if_pos hn]
    simp only [pure_bind]
    rw [← hz0, f1]
    simp [newRow]
  · rw [if_neg hn]
    simp only [Sem.run_bind, run_zero' (hD.get hj), Sem.run_pure, Result.andThen_ok]
    rw [← hzc, f1]
    simp [newRow]

/-- A slice literal, shared. -/
theorem LVal.buildSlice {G : Ctx} {D : Tab} (hD : TabOK G.P D) {o : Oper} {T : Nat → TV} {S : LS} {t e : TypeId} {n : Nat} {ps : List (Nat × Operand)} {lp : List (Nat × List LV)} {l : List LV} {i j : TI} (ho : o.op = .buildSlice t n ps.toArray)
    (hp : lparts T ps = some lp) (hi : D.get t = some i) (hd : i.desc = .slice e) (hj : D.get e = some j) (hsz : Nat.blt 0 j.size = true) (hzs : j.zero.cells.size = j.size) (hz : j.zero.cells.toList.all Value.oneCell' = true) (hbig : Nat.ble (n * j.size) 16777216 = true)
    (h : lfill (fun k => some (k * j.size, j.size)) (sliceZero j n) lp = some l) : LVal G o T S (.one (.sl .sh (chunks j.size l n))) := by
  intro K w ac hi' hr
  obtain ⟨c, h1, h2, h3⟩ := run_buildSlice hD ho hp hi hd hj hsz hzs hz hbig h hr
  have hz' : j.size = G.P.cellsOf e := (cellsOf' (hD.get hj)).symm
  have hsz' : 0 < j.size := by simpa [Nat.blt_eq] using hsz
  have hn : n ≤ maxLen := by
    have := Nat.le_of_ble_eq_true hbig
    have : n * 1 ≤ n * j.size := Nat.mul_le_mul_left n hsz'
    unfold maxLen; omega
  obtain ⟨k1, k2, k3⟩ := hi'.newRow (cap := n) h3 hz' c (by rw [← h3.len]; exact List.take_length) h2 (by rw [chunks_length]; exact Nat.le_refl _) hn
  unfold Oper.wp
  rw [h1]
  rw [chunks_length] at k1 k2 k3
  exact ⟨_, _, rfl, .one k3.share, k1.forget (LS.le.newRow (LS.le.refl _) hi'.fresh _ _) hi'.wf (fun b x hb => (hi'.row b x.1 x.2 hb).2.2.1), k2⟩

/-- A slice literal of the call's own. -/
theorem LDo.buildSlice {G : Ctx} {D : Tab} (hD : TabOK G.P D) {o : Oper} {T : Nat → TV} {S : LS} {t e : TypeId} {n : Nat} {ps : List (Nat × Operand)} {lp : List (Nat × List LV)} {l : List LV} {i j : TI} (ho : o.op = .buildSlice t n ps.toArray)
    (hp : lparts T ps = some lp) (hi : D.get t = some i) (hd : i.desc = .slice e) (hj : D.get e = some j) (hsz : Nat.blt 0 j.size = true) (hzs : j.zero.cells.size = j.size) (hz : j.zero.cells.toList.all Value.oneCell' = true) (hbig : Nat.ble (n * j.size) 16777216 = true)
    (h : lfill (fun k => some (k * j.size, j.size)) (sliceZero j n) lp = some l) : LDo G o T S (fun r S' => ∃ b, S.fresh b ∧ r = .one (.sl (.own b) (chunks j.size l n)) ∧ S' = S.newRow b e n) := by
  intro K w ac hi' hr
  obtain ⟨c, h1, h2, h3⟩ := run_buildSlice hD ho hp hi hd hj hsz hzs hz hbig h hr
  have hz' : j.size = G.P.cellsOf e := (cellsOf' (hD.get hj)).symm
  have hsz' : 0 < j.size := by simpa [Nat.blt_eq] using hsz
  have hn : n ≤ maxLen := by
    have := Nat.le_of_ble_eq_true hbig
    have : n * 1 ≤ n * j.size := Nat.mul_le_mul_left n hsz'
    unfold maxLen; omega
  obtain ⟨k1, k2, k3⟩ := hi'.newRow (cap := n) h3 hz' c (by rw [← h3.len]; exact List.take_length) h2 (by rw [chunks_length]; exact Nat.le_refl _) hn
  unfold Oper.wp
  rw [h1]
  rw [chunks_length] at k1 k2 k3
  exact ⟨_, _, _, _, rfl, .one k3, k1, k2, w.heap.size, hi'.fresh, rfl, rfl⟩

/-- A slice of one element, for an append. -/
theorem LVal.buildSlice1 {G : Ctx} {D : Tab} (hD : TabOK G.P D) {o : Oper} {T : Nat → TV} {S : LS} {t e : TypeId} {x : Operand} {c : List LV} {i j : TI} (ho : o.op = .buildSlice t 1 #[(0, x)])
    (hx : tcells (lev T x) = some c) (hi : D.get t = some i) (hd : i.desc = .slice e) (hj : D.get e = some j) (hc : Nat.beq c.length j.size = true) (hsz : Nat.blt 0 j.size = true) (hzs : j.zero.cells.size = j.size) (hz : j.zero.cells.toList.all Value.oneCell' = true) (hbig : Nat.ble j.size 16777216 = true) :
    LVal G o T S (.one (.sl .sh [c])) := by
  have hcl : c.length = j.size := Nat.eq_of_beq_eq_true hc
  have hzl : (sliceZero j 1).length = j.size := by simp [sliceZero]
  have h := LVal.buildSlice (T := T) (S := S) hD (ps := [(0, x)]) ho (lp := [(0, c)]) (by simp only [lparts, hx]) hi hd hj hsz hzs hz (by rw [Nat.one_mul]; exact hbig) (l := splice (sliceZero j 1) 0 c) (by
    simp only [lfill, Nat.zero_mul, Nat.zero_add]
    have h1 : Nat.ble c.length (sliceZero j 1).length = true := by rw [hzl, hcl]; exact Nat.ble_eq_true_of_le (Nat.le_refl _)
    rw [hc, h1]; rfl)
  have e1 : splice (sliceZero j 1) 0 c = c := by
    unfold splice
    rw [List.drop_eq_nil_of_le (by omega)]; simp
  rw [e1] at h
  have e2 : chunks j.size c 1 = [c] := by
    simp only [chunks]
    rw [List.take_of_length_le (by omega)]
  rw [e2] at h
  exact h

/-- append of one element. -/
theorem LDo.append1 {G : Ctx} {D : Tab} (hD : TabOK G.P D) {o : Oper} {T : Nat → TV} {S : LS} {t e : TypeId} {s x : Operand} {o1 o2 : Own} {es : List (List LV)} {c : List LV} {i j : TI}
    (ho : o.op = .call { callee := .builtin .append, args := #[s, x], argTypes := #[t, t] }) (hs : lev T s = .one (.sl o1 es)) (hx : lev T x = .one (.sl o2 [c])) (hi : D.get t = some i) (hd : i.desc = .slice e) (hj : D.get e = some j)
    (hsz : Nat.blt 0 j.size = true) (hzs : j.zero.cells.size = j.size) (hc : Nat.beq c.length j.size = true) {n : Nat} (hn : es.length = n) (hown : Owned S e n o1) (hbytes : (n + 1) * j.bytes ≤ 140737488355328) (hl : n ≤ 140737488355328) :
    LDo G o T S (fun r S' => ∃ o', r = .one (.sl o' (es ++ [c])) ∧ Owned S' e (n + 1) o' ∧ S.upto o1 S' ∧ ∀ b, o' = .own b → o1 = .own b ∨ S.fresh b) := by
  subst hn
  exact LDo.append hD ho hs hx hi hd hj hsz hzs hown (by simpa using Nat.eq_of_beq_eq_true hc) (by simp only [List.length_singleton, maxLen]; omega) hbytes

/-- An own slice's row was not there at the beginning. -/
def Out (S : LS) (o : Own) : Prop := ∀ b, o = .own b → S.row b = none

theorem Out.nil (S : LS) : Out S .nil := fun b h => by cases h
theorem Out.sh (S : LS) : Out S .sh := fun b h => by cases h
theorem Out.fresh {S0 S : LS} (hle : S0.le S) {b : Nat} (h : S.fresh b) : Out S0 (.own b) := fun c hc => by
  obtain rfl : b = c := by simpa using hc
  cases hq : S0.row b with
  | none => rfl
  | some x => have := hle.row b x hq; rw [h.row] at this; cases this
theorem Out.next {S0 S : LS} (hle : S0.le S) {o o' : Own} (h : Out S0 o) (hn : ∀ b, o' = .own b → o = .own b ∨ S.fresh b) : Out S0 o' := fun b hb => by
  rcases hn b hb with h1 | h1
  · exact h b h1
  · exact Out.fresh hle h1 b rfl

theorem LS.le.upto {S0 S S' : LS} {o : Own} (h : S0.le S) (hu : S.upto o S') (ho : Out S0 o) : S0.le S' :=
  ⟨fun b cs hb => hu.box b cs (h.box b cs hb), fun b x hb => hu.row b x (fun e => by rw [ho b e] at hb; cases hb) (h.row b x hb), fun b x hb => hu.obj b x (h.obj b x hb), Nat.le_trans h.top hu.top⟩

theorem Owned.upto {S S' : LS} {o o2 : Own} {e : TypeId} {n : Nat} (h : Owned S e n o2) (hu : S.upto o S') (hd : ∀ b, o = .own b → o2 ≠ .own b) : Owned S' e n o2 := by
  cases o2 with
  | nil => exact h
  | sh => exact h
  | own b => exact hu.row b _ (fun e => hd b e rfl) h

theorem own_apart {S : LS} {o o' o2 : Own} {e : TypeId} {n : Nat} (h : Owned S e n o2) (hn : ∀ b, o' = .own b → o = .own b ∨ S.fresh b) (hd : ∀ b, o = .own b → o2 ≠ .own b) : ∀ b, o' = .own b → o2 ≠ .own b := fun b hb h2 => by
  rcases hn b hb with h1 | h1
  · exact hd b h1 h2
  · subst h2
    have h3 : S.row b = some (e, n) := h
    rw [h1.row] at h3
    cases h3

theorem Owned.setBox {S : LS} {o : Own} {e : TypeId} {n b : Nat} {cs : List LV} (h : Owned S e n o) : Owned (S.setBox b cs) e n o := by cases o <;> exact h
theorem Owned.newBox {S : LS} {o : Own} {e : TypeId} {n b : Nat} {cs : List LV} (h : Owned S e n o) : Owned (S.newBox b cs) e n o := by cases o <;> exact h

end Go.Proofs.Ytkjbdldjfjkneaa.LF
