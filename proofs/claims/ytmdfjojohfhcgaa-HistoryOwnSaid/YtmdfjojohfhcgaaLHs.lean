/- Histories: own and Events, whose rows may be written to; what is written over. -/
import Derived.Test.YtmdfjojohfhcgaaLHd
import Derived.Test.YtmdfjojohfhcgaaLPt
import Derived.Test.YtmdfjojohfhcgaaLHIc
set_option linter.unusedVariables false
set_option linter.unusedSimpArgs false
namespace Go.Proofs.Ytmdfjojohfhcgaa.LF
open Go.RowKit
set_option linter.unusedVariables false

def opR (o : OpV) (Y : LV) : List LV := [uv o.kind, sv o.key, sv o.val, sv o.old, bv o.had, bv o.after, Y]
def evR (p : Ev × LV) : List LV := [uv p.1.kind, iv p.1.id, uv p.1.op.kind, sv p.1.op.key, sv p.1.op.val, sv p.1.op.old, bv p.1.op.had, bv p.1.op.after, p.2, iv p.1.ans.code, bv p.1.ans.found, sv p.1.ans.key, sv p.1.ans.val]
theorem evR_len (p : Ev × LV) : (evR p).length = 13 := rfl
theorem wrL_len1 (x : Wr) : (wrL x).length = 3 := rfl

/-- A slice of writes whose row is new over S0, and is not the box r. -/
def NewWs (S0 : LS) (r : Nat) (S : LS) (Y : LV) : Prop := Y = .sl .nil [] ∨ ∃ q m c ws, Y = rsl q 0 m c ∧ q ≠ r ∧ S.box q = some ws ∧ S0.box q = none ∧ m * 3 ≤ ws.length ∧ m ≤ 1000000
/-- A slice of events whose row is new over S0, with such slices in it. -/
def NewEv (S0 S : LS) (X : LV) (n : Nat) : Prop := (X = .sl .nil [] ∧ n = 0) ∨ ∃ r off c cs, X = rsl r off n c ∧ S.box r = some cs ∧ S0.box r = none ∧ off + n * 13 ≤ cs.length ∧ ∀ i, i < n → ∃ Y, cs[off + i * 13 + 8]? = some Y ∧ NewWs S0 r S Y

theorem NewWs.keep {S0 S S' : LS} {r : Nat} {Y : LV} (h : NewWs S0 r S Y) (k : ∀ q cs, q ≠ r → S.box q = some cs → ∃ cs', S'.box q = some cs' ∧ cs'.length = cs.length) : NewWs S0 r S' Y := by
  rcases h with h | ⟨q, m, c, ws, h1, h2, h3, h4, h5, h9⟩
  · exact .inl h
  · obtain ⟨ws', h6, h7⟩ := k q ws h2 h3
    exact .inr ⟨q, m, c, ws', h1, h2, h6, h4, by omega, h9⟩
theorem splice_length' {cs l : List LV} {off : Nat} (h : off + l.length ≤ cs.length) : (splice cs off l).length = cs.length := by
  simp only [splice, List.length_append, List.length_take, List.length_drop]; omega
theorem splice_one_other {cs : List LV} {off j : Nat} {v : LV} (h : off < cs.length) (hj : j ≠ off) : (splice cs off [v])[j]? = cs[j]? := by
  unfold splice
  rcases Nat.lt_or_ge j off with hl | hl
  · rw [List.append_assoc, List.getElem?_append_left (by rw [List.length_take]; omega), List.getElem?_take, if_pos hl]
  · rw [List.getElem?_append_right (by simp; omega)]
    simp only [List.length_append, List.length_take, List.length_singleton, List.getElem?_drop]
    congr 1; omega
theorem rsl_inj {r r' off off' n n' c c' : Nat} (h : rsl r off n c = rsl r' off' n' c') : r = r' ∧ off = off' ∧ n = n' ∧ c = c' := by
  simp only [rsl, LV.v.injEq, Value.slice.injEq, Option.some.injEq, Addr.mk.injEq, and_true] at h
  exact ⟨h.1.1, h.1.2, h.2.1, h.2.2⟩
/-- An event's number is written over. -/
theorem NewEv.setId {S0 S : LS} {r off n c : Nat} {cs : List LV} (hS : S.box r = some cs) (h : NewEv S0 S (rsl r off n c) n) {i : Nat} (hi : i < n) (v : LV) : NewEv S0 (S.setBox r (splice cs (off + i * 13 + 1) [v])) (rsl r off n c) n := by
  rcases h with ⟨h, _⟩ | ⟨r', off', c', cs', h1, h2, h3, h4, h5⟩
  · cases h
  · obtain ⟨rfl, rfl, _, rfl⟩ := rsl_inj h1
    rw [hS] at h2
    cases h2
    have hoff : off + i * 13 + 1 < cs.length := by omega
    refine .inr ⟨r, off, c, _, rfl, box_set _ _ _, h3, by rw [splice_length' (by simp; omega)]; exact h4, fun k hk => ?_⟩
    obtain ⟨Y, e, w⟩ := h5 k hk
    refine ⟨Y, by rw [splice_one_other hoff (by omega)]; exact e, w.keep fun q ws hq hw => ⟨ws, (box_set_ne _ _ hq).trans hw, rfl⟩⟩
/-- A write is written over. -/
theorem NewEv.setW {S0 S : LS} {r off n c q : Nat} {ws ws' : List LV} (hq : q ≠ r) (hw : S.box q = some ws) (hl : ws'.length = ws.length) (h : NewEv S0 S (rsl r off n c) n) : NewEv S0 (S.setBox q ws') (rsl r off n c) n := by
  rcases h with ⟨h, _⟩ | ⟨r', off', c', cs', h1, h2, h3, h4, h5⟩
  · cases h
  · obtain ⟨rfl, rfl, _, rfl⟩ := rsl_inj h1
    refine .inr ⟨r, off, c, cs', rfl, (box_set_ne _ _ hq.symm).trans h2, h3, h4, fun k hk => ?_⟩
    obtain ⟨Y, e, w⟩ := h5 k hk
    refine ⟨Y, e, w.keep fun p ps hp hps => ?_⟩
    by_cases hpq : p = q
    · subst hpq
      rw [hw] at hps; cases hps
      exact ⟨ws', box_set _ _ _, hl⟩
    · exact ⟨ps, (box_set_ne _ _ hpq).trans hps, rfl⟩

theorem cellsR_at_get {α : Type} {f : α → List LV} {z : Nat} (hz : ∀ x, (f x).length = z) (l : List α) (rest : List LV) {n k : Nat} (hn : n < l.length) (hk : k < z) : (cellsR f l ++ rest)[n * z + k]? = (f l[n])[k]? := by
  have h := cellsR_at hz l rest hn
  have h2 : ((cellsR f l ++ rest).drop (n * z))[k]? = (cellsR f l ++ rest)[n * z + k]? := by rw [List.getElem?_drop]
  rw [← h2, h, List.getElem?_append_left (by rw [hz]; exact hk)]
theorem NewEv.of {S0 S : LS} {X : LV} {ps : List (Ev × LV)} (h : PtAt evR 13 S X ps) (h0 : ∀ b, blockOf X = some b → S0.box b = none)
    (hY : ∀ p ∈ ps, ∃ ws, ws.length ≤ 1000000 ∧ SlAt wrL 3 S p.2 ws ∧ ∀ b, blockOf p.2 = some b → S0.box b = none ∧ blockOf X ≠ some b) : NewEv S0 S X ps.length := by
  cases h with
  | nil => exact .inl ⟨rfl, rfl⟩
  | row r off c _ A B hb ho hl hc =>
    have hlen : ps.length * 13 ≤ (cellsR evR ps ++ B).length := by rw [List.length_append, cellsR_length evR_len]; omega
    refine .inr ⟨r, off, c, _, rfl, hb, h0 r rfl, by rw [List.length_append, ho]; omega, fun i hi => ?_⟩
    refine ⟨ps[i].2, by rw [← ho, Nat.add_assoc, List.getElem?_append_right (by omega), Nat.add_sub_cancel_left, cellsR_at_get evR_len ps B hi (by decide)]; rfl, ?_⟩
    obtain ⟨ws, hwl, hs, hn⟩ := hY _ (List.getElem_mem hi)
    generalize ps[i].2 = Y at hs hn
    cases hs with
    | nil => exact .inl rfl
    | row q c' _ rest hr =>
      obtain ⟨n1, n2⟩ := hn q rfl
      exact .inr ⟨q, ws.length, c', _, rfl, fun e => n2 (by rw [e]; rfl), hr.box, n1, by rw [List.length_append, cellsR_length wrL_len1]; omega, hwl⟩
end Go.Proofs.Ytmdfjojohfhcgaa.LF
