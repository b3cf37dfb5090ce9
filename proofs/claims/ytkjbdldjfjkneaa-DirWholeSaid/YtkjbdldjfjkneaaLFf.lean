/- The frame's slices of the call's own: literals, append. -/
import Derived.Test.YtkjbdldjfjkneaaLFd
import Derived.Test.YtkjbdldjfjkneaaLFe
set_option linter.unusedVariables false
set_option linter.unusedSimpArgs false
namespace Go.Proofs.Ytkjbdldjfjkneaa.LF
open Go.RowKit

/-- A row's cells, one behind the other. -/
structure Flat (G : Ctx) (w : World) (K : Kept) (z : Nat) (es : List (List LV)) (vs : List Value) : Prop where
  len : vs.length = es.length * z
  each : ∀ e ∈ es, e.length = z
  rep : ∀ (i j : Nat) x, cellOf es i j = some x → ∃ v, vs[i * z + j]? = some v ∧ Rep G w K x v

theorem cellOf_lt {es : List (List LV)} {z : Nat} (h : ∀ e ∈ es, e.length = z) {i j : Nat} {x : LV} (hx : cellOf es i j = some x) : i < es.length ∧ j < z := by
  unfold cellOf at hx
  cases he : es[i]? with
  | none => rw [he] at hx; simp at hx
  | some e =>
    rw [he] at hx
    simp only [Option.bind_some] at hx
    have h1 := (List.getElem?_eq_some_iff.1 he).1
    have h2 := (List.getElem?_eq_some_iff.1 hx).1
    have h3 := h e (List.mem_of_getElem? he)
    exact ⟨h1, by omega⟩

theorem cellOf_some {es : List (List LV)} {z : Nat} (h : ∀ e ∈ es, e.length = z) {i j : Nat} (hi : i < es.length) (hj : j < z) : ∃ x, cellOf es i j = some x := by
  have h3 := h es[i] (List.getElem_mem hi)
  exact ⟨es[i][j], by simp [cellOf, hi, h3, hj]⟩

theorem lt_mul {i j n z : Nat} (hi : i < n) (hj : j < z) : i * z + j < n * z := by
  have : (i + 1) * z ≤ n * z := Nat.mul_le_mul_right z hi
  rw [Nat.add_mul] at this
  omega

theorem Flat.mono {G : Ctx} {w w' : World} {K K' : Kept} {z : Nat} {es : List (List LV)} {vs : List Value} (hx : Ext K w K' w') (h : Flat G w K z es vs) : Flat G w' K' z es vs :=
  ⟨h.len, h.each, fun i j x hx' => by obtain ⟨v, h1, h2⟩ := h.rep i j x hx'; exact ⟨v, h1, h2.mono hx⟩⟩

theorem Flat.oneCell {G : Ctx} {w : World} {K : Kept} {z : Nat} {es : List (List LV)} {vs : List Value} (h : Flat G w K z es vs) : ∀ v ∈ vs, v.oneCell' = true := by
  intro v hv
  obtain ⟨q, hq⟩ := List.getElem?_of_mem hv
  have hlt := (List.getElem?_eq_some_iff.1 hq).1
  rw [h.len] at hlt
  have hz : 0 < z := by
    rcases Nat.eq_zero_or_pos z with e | e
    · subst e; simp at hlt
    · exact e
  have hi : q / z < es.length := (Nat.div_lt_iff_lt_mul hz).2 hlt
  obtain ⟨x, hx⟩ := cellOf_some h.each hi (Nat.mod_lt q hz)
  obtain ⟨u, h1, h2⟩ := h.rep _ _ x hx
  rw [Nat.mul_comm, Nat.div_add_mod] at h1
  rw [hq] at h1
  obtain rfl : v = u := by simpa using h1
  exact h2.oneCell

theorem Flat.append {G : Ctx} {w : World} {K : Kept} {z : Nat} {es es' : List (List LV)} {vs vs' : List Value} (h : Flat G w K z es vs) (h' : Flat G w K z es' vs') : Flat G w K z (es ++ es') (vs ++ vs') := by
  refine ⟨by rw [List.length_append, List.length_append, h.len, h'.len, Nat.add_mul], fun e he => ?_, fun i j x hx => ?_⟩
  · rcases List.mem_append.1 he with he | he
    · exact h.each e he
    · exact h'.each e he
  · have heach : ∀ e ∈ es ++ es', e.length = z := fun e he => by
      rcases List.mem_append.1 he with he | he
      · exact h.each e he
      · exact h'.each e he
    obtain ⟨h1, h2⟩ := cellOf_lt heach hx
    by_cases hi : i < es.length
    · have hx' : cellOf es i j = some x := by
        unfold cellOf at hx ⊢
        rw [List.getElem?_append_left hi] at hx
        exact hx
      obtain ⟨v, e1, e2⟩ := h.rep i j x hx'
      exact ⟨v, by rw [List.getElem?_append_left (by rw [h.len]; exact lt_mul hi h2)]; exact e1, e2⟩
    · have hx' : cellOf es' (i - es.length) j = some x := by
        unfold cellOf at hx ⊢
        rw [List.getElem?_append_right (by omega)] at hx
        exact hx
      obtain ⟨v, e1, e2⟩ := h'.rep _ j x hx'
      have hle : es.length * z ≤ i * z := Nat.mul_le_mul_right z (by omega)
      refine ⟨v, ?_, e2⟩
      rw [List.getElem?_append_right (by rw [h.len]; omega), h.len]
      rw [Nat.sub_mul] at e1
      rw [show i * z + j - es.length * z = i * z - es.length * z + j by omega]
      exact e1

/-- A row that is read. -/
theorem Rep.flat {G : Ctx} {w : World} {K : Kept} {o : Own} {es : List (List LV)} {v : Value} {z : Nat} (h : Rep G w K (.sl o es) v) (hz0 : 0 < z) (hz : ∀ e ∈ es, e.length = z) (hne : es ≠ []) :
    ∃ b off cap vs, v = .slice (some ⟨b, off, none⟩) es.length cap ∧ es.length ≤ cap ∧ Flat G w K z es vs ∧ (∀ (q : Nat) u, vs[q]? = some u → w.cell? ⟨b, off + q, none⟩ = some u ∧ K b (off + q)) ∧
      (∀ b', o = .own b' → b' = b ∧ off = 0 ∧ ∃ T n, w.shape? b = some (T, n) ∧ z = G.P.cellsOf T ∧ n = cap * z ∧ cap ≤ maxLen) := by
  cases h with
  | nil => exact absurd rfl hne
  | emp a cap => exact absurd rfl hne
  | row _ _ b off cap z' c hn hcap hz' ho hc hr =>
    have e : z' = z := by
      obtain ⟨x, hx⟩ := List.exists_mem_of_ne_nil es hne
      rw [← hz' x hx, hz x hx]
    subst e
    refine ⟨b, off, cap, (List.range (es.length * z')).map (fun q => c (q / z') (q % z')), rfl, hcap, ⟨by simp, hz, fun i j x hx => ?_⟩, fun q u hq => ?_, ho⟩
    · obtain ⟨h1, h2⟩ := cellOf_lt hz hx
      refine ⟨c i j, ?_, hr i j x hx⟩
      rw [List.getElem?_map, List.getElem?_range (lt_mul h1 h2)]
      simp only [Option.map_some, Option.some.injEq]
      rw [Nat.mul_comm i z', Nat.mul_add_div hz0, Nat.mul_add_mod, Nat.div_eq_of_lt h2, Nat.mod_eq_of_lt h2, Nat.add_zero]
    · have hlt := (List.getElem?_eq_some_iff.1 hq).1
      rw [List.length_map, List.length_range] at hlt
      rw [List.getElem?_map, List.getElem?_range hlt] at hq
      simp only [Option.map_some, Option.some.injEq] at hq
      subst hq
      have hi : q / z' < es.length := (Nat.div_lt_iff_lt_mul hz0).2 hlt
      obtain ⟨x, hx⟩ := cellOf_some hz hi (Nat.mod_lt q hz0)
      have := hc _ _ x hx
      rw [Nat.mul_comm, Nat.div_add_mod] at this
      exact this

theorem Rep.ofFlat {G : Ctx} {w : World} {K : Kept} {o : Own} {es : List (List LV)} {z b off cap : Nat} {vs : List Value} (hf : Flat G w K z es vs) (hn : o ≠ .nil) (hcap : es.length ≤ cap)
    (hc : ∀ (q : Nat) u, vs[q]? = some u → w.cell? ⟨b, off + q, none⟩ = some u ∧ K b (off + q))
    (ho : ∀ b', o = .own b' → b' = b ∧ off = 0 ∧ ∃ T n, w.shape? b = some (T, n) ∧ z = G.P.cellsOf T ∧ n = cap * z ∧ cap ≤ maxLen) : Rep G w K (.sl o es) (.slice (some ⟨b, off, none⟩) es.length cap) := by
  refine .row o es b off cap z (fun i j => vs.getD (i * z + j) undef) hn hcap hf.each ho (fun i j x hx => ?_) fun i j x hx => ?_
  · obtain ⟨v, h1, h2⟩ := hf.rep i j x hx
    obtain ⟨h3, h4⟩ := hc _ v h1
    rw [List.getD_eq_getElem?_getD, h1]
    exact ⟨h3, h4⟩
  · obtain ⟨v, h1, h2⟩ := hf.rep i j x hx
    rw [List.getD_eq_getElem?_getD, h1]
    exact h2

def withRow (K : Kept) (b n : Nat) : Kept := fun c j => K c j ∨ (c = b ∧ j < n)

theorem Inv.newRow {G : Ctx} {S : LS} {K : Kept} {w : World} (h : Inv G S K w) {e : TypeId} {z cap : Nat} {es : List (List LV)} {vs : List Value} (hf : Flat G w K z es vs) (hz : z = G.P.cellsOf e) (c : Array Value)
    (hc : c.toList.take (es.length * z) = vs) (hcs : c.size = cap * z) (hcap : es.length ≤ cap) (hm : cap ≤ maxLen) :
    Inv G (S.newRow w.heap.size e es.length) (withRow K w.heap.size (es.length * z)) (w.alloc (.cells c e)) ∧ Ext K w (withRow K w.heap.size (es.length * z)) (w.alloc (.cells c e)) ∧
      Rep G (w.alloc (.cells c e)) (withRow K w.heap.size (es.length * z)) (.sl (.own w.heap.size) es) (.slice (some ⟨w.heap.size, 0, none⟩) es.length cap) := by
  have ha := h.alloc (.cells c e)
  have hxa := Ext.alloc h (.cells c e)
  have hle : es.length * z ≤ c.size := by rw [hcs]; exact Nat.mul_le_mul_right z hcap
  have hnew : (w.alloc (.cells c e)).heap[w.heap.size]? = some (.cells c e (0, 0)) := heap_alloc_new w _
  have hx : Ext K w (withRow K w.heap.size (es.length * z)) (w.alloc (.cells c e)) :=
    ⟨fun b j hk => ⟨.inl hk, (hxa.kept b j hk).2⟩, hxa.shape, hxa.size, hxa.marks⟩
  have hx2 : Ext K (w.alloc (.cells c e)) (withRow K w.heap.size (es.length * z)) (w.alloc (.cells c e)) := ⟨fun b j hk => ⟨.inl hk, rfl⟩, fun _ _ h => h, Nat.le_refl _, fun _ h => h⟩
  refine ⟨⟨ha.below, ha.base, fun b j hk => ?_, fun b cs hb => ?_, fun b T n hb => ?_, fun b o hb => ?_, by simp [LS.newRow], G.stable _ _ _ _ h.since hx⟩, hx, Rep.ofFlat (hf.mono hx) (by simp) hcap (fun q u hq => ?_) fun b' hb' => ?_⟩
  · rcases hk with hk | ⟨rfl, hj⟩
    · exact ha.live b j hk
    · exact ⟨c[j]'(by omega), by rw [cell_of_row _ _ j c e (0, 0) hnew, Array.getElem?_eq_getElem (by omega)]⟩
  · have hb' : S.box b = some cs := hb
    obtain ⟨h1, h2, c', T, h3, h4, h5, h6⟩ := ha.box b cs hb'
    have := h.top
    refine ⟨h1, by simp only [LS.newRow]; omega, c', T, h3, h4, fun j x v hj hv => (h5 j x v hj hv).mono hx2, fun j hk => ?_⟩
    rcases hk with hk | ⟨e1, _⟩
    · exact h6 j hk
    · omega
  · simp only [LS.newRow] at hb ⊢
    rcases beq_cases b w.heap.size (some (e, es.length)) (S.row b) with ⟨rfl, e1⟩ | ⟨hne, e1⟩
    · rw [e1] at hb
      obtain ⟨rfl, rfl⟩ : e = T ∧ es.length = n := by simpa using hb
      refine ⟨h.base, by omega, h.wf'.1 _ h.top, c, hnew, fun j hj hk => ?_⟩
      rw [← hz] at hj
      rcases hk with hk | ⟨_, hk⟩
      · exact notKept_new h j hk
      · omega
    · rw [e1] at hb
      obtain ⟨h1, h2, h3, c', h4, h5⟩ := ha.row b T n hb
      have := h.top
      refine ⟨h1, by omega, h3, c', h4, fun j hj hk => ?_⟩
      rcases hk with hk | ⟨e2, _⟩
      · exact h5 j hj hk
      · exact hne e2
  · have hb' : S.obj b = some o := hb
    obtain ⟨h1, h2, h3⟩ := ha.obj b o hb'
    have := h.top
    exact ⟨h1, by simp only [LS.newRow]; omega, h3⟩
  · have hq' : c[q]? = some u := by
      rw [← hc, List.getElem?_take] at hq
      split at hq
      · simpa using hq
      · cases hq
    have hlt := (List.getElem?_eq_some_iff.1 hq).1
    rw [hf.len] at hlt
    simp only [Nat.zero_add]
    exact ⟨by rw [cell_of_row _ _ q c e (0, 0) hnew]; exact hq', .inr ⟨rfl, hlt⟩⟩
  · obtain rfl : w.heap.size = b' := by simpa using hb'
    exact ⟨rfl, rfl, e, c.size, by unfold World.shape?; rw [hnew], hz, hcs, hm⟩

/-- Who owns a row, and how many elements it has. -/
def Owned (S : LS) (e : TypeId) (n : Nat) : Own → Prop
  | .nil => n = 0
  | .own b => S.row b = some (e, n)
  | .sh => False

def LS.setRow (S : LS) (b : Nat) (T : TypeId) (n : Nat) : LS := { S with row := fun x => bif Nat.beq x b then some (T, n) else S.row x }

theorem Inv.growRow {G : Ctx} {S : LS} {K : Kept} {w : World} (h : Inv G S K w) {e : TypeId} {z b : Nat} {es news : List (List LV)} {vs vs2 : List Value} (hrow : S.row b = some (e, es.length)) (hf : Flat G w K z es vs) (hf2 : Flat G w K z news vs2) (hz : z = G.P.cellsOf e)
    (hvs : ∀ (q : Nat) u, vs[q]? = some u → w.cell? ⟨b, 0 + q, none⟩ = some u ∧ K b (0 + q)) (cur : Array Value) (hcur : w.heap[b]? = some (.cells cur e (0, 0))) {cap : Nat} (hcs : cur.size = cap * z) (hroom : es.length + news.length ≤ cap) (hm : cap ≤ maxLen)
    (c2 : Array Value) (hc2 : c2 = (cur.toList.take (es.length * z) ++ vs2 ++ cur.toList.drop (es.length * z + vs2.length)).toArray) :
    Inv G (S.setRow b e (es.length + news.length)) (withRow K b ((es.length + news.length) * z)) (w.setRow b c2) ∧ Ext K w (withRow K b ((es.length + news.length) * z)) (w.setRow b c2) ∧
      Rep G (w.setRow b c2) (withRow K b ((es.length + news.length) * z)) (.sl (.own b) (es ++ news)) (.slice (some ⟨b, 0, none⟩) (es ++ news).length cap) := by
  obtain ⟨b1, b2, b3, c', b4, b5⟩ := h.row b e _ hrow
  rw [hcur] at b4
  obtain rfl : cur = c' := by simpa using b4
  rw [← hz] at b5
  have hle : (es.length + news.length) * z ≤ cur.size := by rw [hcs]; exact Nat.mul_le_mul_right z hroom
  have hl2 := hf2.len
  rw [Nat.add_mul] at hle
  have hsz : c2.size = cur.size := by rw [hc2]; simp; omega
  have hget : ∀ j : Nat, c2[j]? = if j < es.length * z then cur[j]? else if j < es.length * z + vs2.length then vs2[j - es.length * z]? else cur[j]? := by
    intro j
    rw [hc2, List.getElem?_toArray, List.append_assoc]
    by_cases h1 : j < es.length * z
    · rw [if_pos h1, List.getElem?_append_left (by simp; omega), List.getElem?_take, if_pos h1]; simp
    · rw [if_neg h1, List.getElem?_append_right (by simp; omega)]
      rw [List.length_take, Nat.min_eq_left (by simp; omega)]
      by_cases h2 : j < es.length * z + vs2.length
      · rw [if_pos h2, List.getElem?_append_left (by omega)]
      · rw [if_neg h2, List.getElem?_append_right (by omega), List.getElem?_drop]
        simp only [Array.getElem?_toList]
        congr 1; omega
  have hother : ∀ k, k ≠ b → (w.setRow b c2).heap[k]? = w.heap[k]? := fun k hk => setRow_other w b k c2 hk
  have hsame : (w.setRow b c2).heap[b]? = some (.cells c2 e (0, 0)) := setRow_heap w b cur c2 e (0, 0) hcur
  have hcell : ∀ j, (w.setRow b c2).cell? ⟨b, j, none⟩ = c2[j]? := fun j => cell_of_row _ b j c2 e (0, 0) hsame
  have hcell0 : ∀ j, w.cell? ⟨b, j, none⟩ = cur[j]? := fun j => cell_of_row _ b j cur e (0, 0) hcur
  have hx : Ext K w (withRow K b ((es.length + news.length) * z)) (w.setRow b c2) := by
    refine ⟨fun k j hk => ⟨.inl hk, ?_⟩, fun k s hs => ?_, by simp, fun k hk => ?_⟩
    · by_cases e1 : k = b
      · subst e1
        have : j < es.length * z := by
          rcases Nat.lt_or_ge j (es.length * z) with h' | h'
          · exact h'
          · exact absurd hk (b5 j h')
        rw [hcell, hcell0, hget, if_pos this]
      · exact World.cell?_of_block (a := ⟨k, j, none⟩) (hother k e1)
    · by_cases e1 : k = b
      · subst e1
        simp only [World.shape?, hcur, hsame, hsz] at hs ⊢
        exact hs
      · simp only [World.shape?, hother k e1] at hs ⊢
        exact hs
    · have : k ≠ b := fun e1 => by subst e1; rw [hcur] at hk; cases hk
      rw [hother k this]; exact hk
  refine ⟨⟨?_, ?_, fun k j hk => ?_, fun k cs' hk => ?_, fun k T' n hk => ?_, fun k o hk => ?_, ?_, G.stable _ _ _ _ h.since hx⟩, hx, ?_⟩
  · exact h.below.trans ⟨rfl, rfl, rfl, by simp, fun k hk => hother k (by omega)⟩
  · simpa using h.base
  · rcases hk with hk | ⟨rfl, hj⟩
    · obtain ⟨v, hv⟩ := h.live k j hk
      exact ⟨v, by rw [(hx.kept k j hk).2]; exact hv⟩
    · rw [hcell]
      rw [Nat.add_mul] at hj
      exact ⟨c2[j]'(by omega), Array.getElem?_eq_getElem (by omega)⟩
  · have hk' : S.box k = some cs' := hk
    obtain ⟨h1, h2, c3, T3, h3, h4, h5, h6⟩ := h.box k cs' hk'
    have hne : k ≠ b := fun e1 => by subst e1; rw [b3] at hk'; cases hk'
    refine ⟨h1, h2, c3, T3, by rw [hother k hne]; exact h3, h4, fun j x v hj hv => (h5 j x v hj hv).mono hx, fun j hkj => ?_⟩
    rcases hkj with hkj | ⟨e1, _⟩
    · exact h6 j hkj
    · exact hne e1
  · simp only [LS.setRow] at hk ⊢
    rcases beq_cases k b (some (e, es.length + news.length)) (S.row k) with ⟨rfl, e1⟩ | ⟨hne, e1⟩
    · rw [e1] at hk
      obtain ⟨rfl, rfl⟩ : e = T' ∧ es.length + news.length = n := by simpa using hk
      refine ⟨b1, b2, b3, c2, hsame, fun j hj hkj => ?_⟩
      rw [← hz] at hj
      rcases hkj with hkj | ⟨_, hkj⟩
      · exact b5 j (by rw [Nat.add_mul] at hj; omega) hkj
      · omega
    · rw [e1] at hk
      obtain ⟨h1, h2, h3, c3, h4, h5⟩ := h.row k T' n hk
      refine ⟨h1, h2, h3, c3, by rw [hother k hne]; exact h4, fun j hj hkj => ?_⟩
      rcases hkj with hkj | ⟨e2, _⟩
      · exact h5 j hj hkj
      · exact hne e2
  · have hk' : S.obj k = some o := hk
    obtain ⟨h1, h2, h3, h4, h5⟩ := h.obj k o hk'
    have : k ≠ b := fun e1 => by
      subst e1
      rw [hcur] at h3
      obtain rfl : Obj.cells cur e (0, 0) = o := by simpa using h3
      simp [Obj.isCells] at h4
    exact ⟨h1, h2, by rw [hother k this]; exact h3, h4, h5⟩
  · have := h.top
    simpa [LS.setRow] using this
  · refine Rep.ofFlat ((hf.append hf2).mono hx) (by simp) (by rw [List.length_append]; exact hroom) (fun q u hq => ?_) fun b' hb' => ?_
    · have hlt := (List.getElem?_eq_some_iff.1 hq).1
      rw [List.length_append, hf.len] at hlt
      rw [Nat.zero_add, hcell, hget]
      refine ⟨?_, .inr ⟨rfl, by rw [Nat.add_mul]; omega⟩⟩
      by_cases h1 : q < es.length * z
      · rw [if_pos h1]
        rw [List.getElem?_append_left (by rw [hf.len]; exact h1)] at hq
        have := (hvs q u hq).1
        rw [Nat.zero_add, hcell0] at this
        exact this
      · rw [if_neg h1, if_pos (by omega)]
        rw [List.getElem?_append_right (by rw [hf.len]; omega), hf.len] at hq
        exact hq
    · obtain rfl : b = b' := by simpa using hb'
      exact ⟨rfl, rfl, e, c2.size, by unfold World.shape?; rw [hsame], hz, by rw [hsz, hcs], hm⟩

/-- What an append leaves of the logical memory. -/
structure LS.upto (o : Own) (S S' : LS) : Prop where
  box : ∀ b cs, S.box b = some cs → S'.box b = some cs
  row : ∀ b x, o ≠ .own b → S.row b = some x → S'.row b = some x
  obj : ∀ b x, S.obj b = some x → S'.obj b = some x
  top : S.top ≤ S'.top

theorem LS.fresh_newRow {S : LS} {b : Nat} (h : S.fresh b) (e : TypeId) (n : Nat) (o : Own) : S.upto o (S.newRow b e n) := by
  refine ⟨fun _ _ h => h, fun c x _ hx => ?_, fun _ _ h => h, by have := h.top; simp only [LS.newRow]; omega⟩
  rw [row_new_ne S e n (fun e1 => by subst e1; rw [h.row] at hx; cases hx)]
  exact hx


theorem Rep.ownRow {G : Ctx} {w : World} {K : Kept} {b : Nat} {es : List (List LV)} {v : Value} {z : Nat} {e : TypeId} {cur : Array Value} (h : Rep G w K (.sl (.own b) es) v) (hz0 : 0 < z) (hz : z = G.P.cellsOf e) (hcur : w.heap[b]? = some (.cells cur e (0, 0))) :
    ∃ cap vs, v = .slice (some ⟨b, 0, none⟩) es.length cap ∧ es.length ≤ cap ∧ Flat G w K z es vs ∧ (∀ (q : Nat) u, vs[q]? = some u → w.cell? ⟨b, 0 + q, none⟩ = some u ∧ K b (0 + q)) ∧ cur.size = cap * z ∧ cap ≤ maxLen := by
  have h0 := h
  cases h with
  | row _ _ b' off cap z' c hn hcap hz' ho hc hr =>
    obtain ⟨rfl, rfl, T, n, h1, h2, h3, h4⟩ := ho b rfl
    unfold World.shape? at h1
    rw [hcur] at h1
    obtain ⟨rfl, rfl⟩ : e = T ∧ cur.size = n := by simpa using h1
    obtain rfl : z = z' := by rw [hz, h2]
    by_cases hne : es = []
    · subst hne
      exact ⟨cap, [], rfl, hcap, ⟨by simp, by simp, by simp [cellOf]⟩, by simp, h3, h4⟩
    · obtain ⟨b2, off2, cap2, vs, e1, e2, e3, e4, e5⟩ := h0.flat hz0 hz' hne
      obtain ⟨⟨rfl, rfl⟩, rfl⟩ : (b = b2 ∧ 0 = off2) ∧ cap = cap2 := by simpa using e1
      exact ⟨cap, vs, rfl, hcap, e3, e4, h3, h4⟩

theorem run_append_nothing {P : Program} {w : World} {t ty e : TypeId} {j : TI} (ht : P.underlying t = some (.slice e)) (hj : TIok P e j) (base : Option Addr) (n cap : Nat) (h : n ≤ cap) (a : Option Addr) (c : Nat) :
    (Builtin.append_ #[t, t] ty #[.slice base n cap, .slice a 0 c]).run P w = .ok (.slice base n cap) w := by
  have hf : (Builtin.firstCells j.size 0 (.slice a 0 c)).run P w = .ok #[] w := by
    cases a <;> simp [Builtin.firstCells, loadCells, loadCellsFrom]
  cases base with
  | none => simp [Builtin.append_, run_underlying ht, run_sizeOf' hj, Builtin.lenOf, h, hf]
  | some b => simp [Builtin.append_, run_underlying ht, run_sizeOf' hj, Builtin.lenOf, h, hf, storeCells]

theorem addCells {w : World} {b off : Nat} {vs : List Value} {K : Kept} (h : ∀ (q : Nat) u, vs[q]? = some u → w.cell? ⟨b, off + q, none⟩ = some u ∧ K b (off + q)) : ∀ (q : Nat) u, vs[q]? = some u → w.cell? ((⟨b, off, none⟩ : Addr).add q) = some u :=
  fun q u hq => by rw [add_off]; exact (h q u hq).1

/-- append onto a slice that is nil or the call's own. -/
theorem LDo.append {G : Ctx} {D : Tab} (hD : TabOK G.P D) {o : Oper} {T : Nat → TV} {S : LS} {t e : TypeId} {s x : Operand} {o1 o2 : Own} {es news : List (List LV)} {i j : TI}
    (ho : o.op = .call { callee := .builtin .append, args := #[s, x], argTypes := #[t, t] }) (hs : lev T s = .one (.sl o1 es)) (hx : lev T x = .one (.sl o2 news)) (hi : D.get t = some i) (hd : i.desc = .slice e) (hj : D.get e = some j)
    (hsz : Nat.blt 0 j.size = true) (hzs : j.zero.cells.size = j.size) (hown : Owned S e es.length o1) (hnz : ∀ c ∈ news, c.length = j.size) (hl : es.length + news.length ≤ maxLen) (hbytes : (es.length + news.length) * j.bytes ≤ 140737488355328) :
    LDo G o T S (fun r S' => ∃ o', r = .one (.sl o' (es ++ news)) ∧ Owned S' e (es.length + news.length) o' ∧ S.upto o1 S' ∧ ∀ b, o' = .own b → o1 = .own b ∨ S.fresh b) :=
  .of_run fun K w ac hi' hr => by
    have h1 := hr s (by rw [ho]; simp [Op.operands, Call.operands])
    have h2 := hr x (by rw [ho]; simp [Op.operands, Call.operands])
    rw [hs] at h1
    rw [hx] at h2
    have e1 := (hD.get hi).und
    rw [hd] at e1
    have tj := hD.get hj
    have hsz' : 0 < j.size := by simpa [Nat.blt_eq] using hsz
    obtain ⟨ji, q1, q2, q3, q4⟩ := tj.info
    have hze : j.size = G.P.cellsOf e := (cellsOf' tj).symm
    have r1 := h1.of_one
    have r2 := h2.of_one
    have hex : ∀ v w', (Builtin.append_ #[t, t] o.type #[ac.eval s, ac.eval x]).run G.P w = .ok v w' → (execOp ac.eval o).run G.P w = .ok (.value v) w' := fun v w' h => by
      simp [execOp, ho, resolve, invoke, builtin, h]
    have hsmall : es.length + news.length ≤ 9223372036854775807 := by simp only [maxLen] at hl; omega
    by_cases hne : news = []
    · subst hne
      have hxv : ∃ a c, ac.eval x = .slice a 0 c := by
        generalize ac.eval x = v at r2
        cases r2 with
        | nil => exact ⟨none, 0, rfl⟩
        | emp a cap => exact ⟨a, cap, rfl⟩
        | row _ _ b off cap z c => exact ⟨_, _, rfl⟩
      have hsv : ∃ base n cap, ac.eval s = .slice base n cap ∧ n ≤ cap := by
        generalize ac.eval s = v at r1
        cases r1 with
        | nil => exact ⟨none, 0, 0, rfl, Nat.le_refl _⟩
        | emp a cap => exact ⟨a, 0, cap, rfl, Nat.zero_le _⟩
        | row _ _ b off cap z c _ hcap => exact ⟨_, _, _, rfl, hcap⟩
      obtain ⟨a, c, hxv⟩ := hxv
      obtain ⟨base, n, cap, hsv, hle⟩ := hsv
      have := run_append_nothing (w := w) (ty := o.type) e1 tj base n cap hle a c
      rw [← hxv, ← hsv] at this
      exact ⟨.one (.sl o1 es), _, S, K, w, hex _ _ this, .one r1, hi', .refl _ _, o1, by rw [List.append_nil], by simpa using hown, ⟨fun _ _ h => h, fun _ _ _ h => h, fun _ _ h => h, Nat.le_refl _⟩, fun b hb => .inl hb⟩
    · obtain ⟨b2, off2, cap2, vs2, f1, f2, f3, f4, f5⟩ := r2.flat hsz' hnz hne
      have hpos : 0 < news.length := List.length_pos_iff.2 hne
      have hnl : vs2.length = news.length * ji.size := by rw [q2]; exact f3.len
      have hzl : ∀ n, (Builtin.zeroCells j.zero.cells n).size = n * j.size := fun n => by rw [size_zeroCells, hzs]
      cases o1 with
      | sh => exact hown.elim
      | nil =>
        have hes : es = [] := List.length_eq_zero_iff.1 hown
        subst hes
        have hsv : ac.eval s = .slice none 0 0 := by
          generalize ac.eval s = v at r1
          cases r1 with
          | nil => rfl
          | row _ _ _ _ _ _ _ hn => exact absurd rfl hn
        simp only [List.length_nil, Nat.zero_add] at hsmall hbytes hl
        have hrun := run_append_nil (P := G.P) w t o.type e ji j.zero e1 q1 q4 ⟨b2, off2, none⟩ news.length cap2 vs2 hnl (addCells f4) hpos (by omega) (by rw [q3]; omega)
        rw [← hsv, ← f1] at hrun
        have hge := grownCap_ge w news.length 0 e
        have hcm := grownCap_le_maxLen w news.length 0 e hl
        obtain ⟨g1, g2, g3⟩ := hi'.drew.newRow (e := e) (z := j.size) (cap := grownCap w news.length 0 e) (f3.mono (.drew K w)) hze (vs2.toArray ++ Builtin.zeroCells j.zero.cells (grownCap w news.length 0 e - news.length)) (by
            rw [Array.toList_append, ← f3.len]; exact List.take_left) (by
            rw [Array.size_append, hzl, List.size_toArray, f3.len, ← Nat.add_mul]; congr 1; omega) hge hcm
        refine ⟨_, _, _, _, _, hex _ _ hrun, .one g3, g1, (Ext.drew K w).trans g2, .own w.heap.size, rfl, ?_, LS.fresh_newRow hi'.fresh e _ _, fun b hb => .inr ?_⟩
        · simp only [Owned, List.length_nil, Nat.zero_add]; exact row_new S _ e _
        · obtain rfl : w.heap.size = b := by simpa using hb
          exact hi'.fresh
      | own b =>
        obtain ⟨p1, p2, p3, cur, p4, p5⟩ := hi'.row b e _ hown
        obtain ⟨cap, vs, g1, g2, g3, g4, g5, g6⟩ := r1.ownRow hsz' hze p4
        by_cases hroom : es.length + news.length ≤ cap
        · have hfit : es.length * ji.size + vs2.length ≤ cur.size := by rw [hnl, q2, g5, ← Nat.add_mul]; exact Nat.mul_le_mul_right _ hroom
          have hrun := run_append_room (P := G.P) w t o.type e ji e1 q1 b es.length cap cur p4 ⟨b2, off2, none⟩ news.length cap2 vs2 hnl (addCells f4) f3.oneCell hroom hfit
          rw [← g1, ← f1, q2] at hrun
          obtain ⟨k1, k2, k3⟩ := hi'.growRow hown g3 f3 hze g4 cur p4 g5 hroom g6 _ rfl
          rw [List.length_append] at k3
          exact ⟨_, _, _, _, _, hex _ _ hrun, .one k3, k1, k2, .own b, rfl, by simp only [Owned, LS.setRow]; simp, ⟨fun _ _ h => h, fun c x hc hx => by
            simp only [LS.setRow]
            rcases beq_cases c b (some (e, es.length + news.length)) (S.row c) with ⟨rfl, _⟩ | ⟨_, e2⟩
            · exact absurd rfl hc
            · rw [e2]; exact hx, fun _ _ h => h, Nat.le_refl _⟩, fun b' hb' => .inl hb'⟩
        · have hrun := run_append_grow (P := G.P) w t o.type e ji j.zero e1 q1 q4 ⟨b, 0, none⟩ es.length cap vs (by rw [q2]; exact g3.len) (addCells g4) ⟨b2, off2, none⟩ news.length cap2 vs2 hnl (addCells f4) (by omega) (by omega) (by
            rw [q3]; exact growslice_fits (by omega) hbytes)
          rw [← g1, ← f1] at hrun
          have hge := grownCap_ge w (es.length + news.length) cap e
          have hcm := grownCap_le_maxLen w (es.length + news.length) cap e hl
          have hlen : (es ++ news).length = es.length + news.length := List.length_append
          obtain ⟨k1, k2, k3⟩ := hi'.drew.newRow (e := e) (z := j.size) (cap := grownCap w (es.length + news.length) cap e) ((g3.append f3).mono (.drew K w)) hze (vs.toArray ++ vs2.toArray ++ Builtin.zeroCells j.zero.cells (grownCap w (es.length + news.length) cap e - (es.length + news.length))) (by
              rw [Array.toList_append, Array.toList_append, ← (g3.append f3).len]; exact List.take_left) (by
              rw [Array.size_append, Array.size_append, hzl, List.size_toArray, List.size_toArray, f3.len, g3.len, ← Nat.add_mul, ← Nat.add_mul]; congr 1; omega) (by rw [hlen]; exact hge) hcm
          rw [hlen] at k1 k2 k3
          refine ⟨_, _, _, _, _, hex _ _ hrun, .one k3, k1, (Ext.drew K w).trans k2, .own w.heap.size, rfl, ?_, LS.fresh_newRow hi'.fresh e _ _, fun b hb => .inr ?_⟩
          · simp only [Owned]; exact row_new S _ e _
          · obtain rfl : w.heap.size = b := by simpa using hb
            exact hi'.fresh

end Go.Proofs.Ytkjbdldjfjkneaa.LF
