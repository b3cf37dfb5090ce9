/- Leaves, in plain Lean: what MleafKeeps says. -/
import Derived.Test.YtgkjhlmfgaaddaaLNb
set_option linter.unusedVariables false
set_option linter.unusedSimpArgs false
namespace Go.Proofs.Ytgkjhlmfgaaddaa.LF
open Go.RowKit
set_option linter.unusedVariables false

theorem hasL_yes {l : LeafV} (h : Fit l) {m : MarkV} {x : SlotV} (hx : Has l x) (hm : x.m = m) : hasL l m = (x, true) := by
  obtain ⟨k, hk, rfl⟩ := hx
  have := found_of h hk hm
  unfold hasL
  rw [this]; rfl
theorem hasL_no {l : LeafV} (h : Fit l) {m : MarkV} (hno : ∀ x, Has l x → x.m ≠ m) : hasL l m = (noSlot, false) := by
  have := found_none h (m := m) fun k hk => hno _ ⟨k, hk, rfl⟩
  unfold hasL
  rw [if_neg (by rw [this]; decide)]
theorem hasL_same {a b : LeafV} (ha : Fit a) (hb : Fit b) {m : MarkV} (h : ∀ x, x.m = m → (Has a x ↔ Has b x)) : hasL a m = hasL b m := by
  by_cases he : ∃ x, Has a x ∧ x.m = m
  · obtain ⟨x, h1, h2⟩ := he
    rw [hasL_yes ha h1 h2, hasL_yes hb ((h x h2).1 h1) h2]
  · rw [hasL_no ha fun x h1 h2 => he ⟨x, h1, h2⟩, hasL_no hb fun x h1 h2 => he ⟨x, (h x h2).2 h1, h2⟩]
theorem hasL_find (l : LeafV) (m : MarkV) : (hasL l m).2 = (findL l m).2 := by
  unfold hasL
  cases (findL l m).2 <;> rfl

/-- What a leaf without a mark is. -/
structure CutAt (l : LeafV) (m : MarkV) (B : LeafV) : Prop where
  e : delL l m = (B, (hasL l m).1, (hasL l m).2)
  ok : B.ok
  fit : Fit B
  n : (hasL l m).2 = true → B.p % 16 + 1 = l.p % 16
  same : (hasL l m).2 = false → B = l
  no : (hasL B m).2 = false
  sl : ∀ k, k < 15 → l.slot k ≠ noSlot → (l.slot k).m ≠ m → B.slot k = l.slot k
theorem cutAt_of {l : LeafV} (h : Fit l) (ho : l.ok) (m : MarkV) : ∃ B, CutAt l m B := by
  have ok := delL_ok ho m
  cases hf : (findL l m).2 with
  | true =>
    have e := delL_yes hf
    have f := (found h m).at_ hf
    have eh : hasL l m = (l.rank (findL l m).1, true) := by unfold hasL; rw [if_pos hf]
    generalize (findL l m).1 = i at *
    rw [e] at ok
    have hl := cut_len f.1
    refine ⟨_, (by rw [e, eh]), ok, cut_fit h f.1, fun _ => (by rw [hl]; omega), fun h0 => (by rw [eh] at h0; cases h0), ?_, fun k hk h1 h2 => ?_⟩
    · rw [hasL_no (cut_fit h f.1) fun x hx => ?_]
      exact fun e2 => ((cut_has h f.1 x).1 hx).2 (by rw [f.2, e2])
    · show (if k = nib l.p i then noSlot else l.slot k) = l.slot k
      rw [if_neg fun e2 => h2 (by rw [e2]; exact f.2)]
  | false =>
    have e := delL_no hf
    have eh : hasL l m = (noSlot, false) := by unfold hasL; rw [if_neg (by rw [hf]; decide)]
    exact ⟨l, (by rw [e, eh]), ho, h, fun h0 => (by rw [eh] at h0; cases h0), fun _ => rfl, (by rw [eh]), fun k _ _ _ => rfl⟩

/-- What a leaf with a slot is. -/
structure PutAt (l : LeafV) (s : SlotV) (A : LeafV) (old : SlotV) (had : Bool) : Prop where
  e : putL l s = (A, old, had)
  ok : A.ok
  fit : Fit A
  yes : (rightS s && coversL l s.m && ((hasL l s.m).2 || decide (l.p % 16 < 15))) = true → hasL A s.m = (s, true) ∧ had = (hasL l s.m).2 ∧ old = (hasL l s.m).1
  no : (rightS s && coversL l s.m && ((hasL l s.m).2 || decide (l.p % 16 < 15))) = false → A = l
  sl : ∀ k, k < 15 → l.slot k ≠ noSlot → (l.slot k).m ≠ s.m → A.slot k = l.slot k
theorem putAt_of {l : LeafV} (h : Fit l) (ho : l.ok) {s : SlotV} (hso : s.m.ok) : ∃ A old had, PutAt l s A old had := by
  have ok := putL_ok ho hso
  by_cases hc : rightL l = true ∧ rightS s = true ∧ coversL l s.m = true
  · obtain ⟨_, hs, hv⟩ := hc
    cases hf : (findL l s.m).2 with
    | true =>
      obtain ⟨e, g⟩ := putL_hit h hs hv hf
      have eh : hasL l s.m = (l.rank (findL l s.m).1, true) := by unfold hasL; rw [if_pos hf]
      generalize (findL l s.m).1 = i at *
      rw [e] at ok
      refine ⟨_, _, _, e, ok, g.next, fun _ => ⟨hasL_yes g.next ((g.has s).2 (.inl rfl)) rfl, (by rw [eh]), (by rw [eh])⟩, fun h0 => ?_, fun k hk h1 h2 => ?_⟩
      · rw [hs, hv, eh] at h0; cases h0
      · show (if k = nib l.p i then s else l.slot k) = l.slot k
        rw [if_neg fun e2 => h2 (by rw [e2]; exact g.eq)]
    | false =>
      have eh : hasL l s.m = (noSlot, false) := by unfold hasL; rw [if_neg (by rw [hf]; decide)]
      by_cases hn : l.p % 16 < 15
      · obtain ⟨e, g⟩ := putL_gap h hs hv hf hn
        generalize (findL l s.m).1 = i at *
        rw [e] at ok
        refine ⟨_, _, _, e, ok, g.next, fun _ => ⟨hasL_yes g.next ((g.has s).2 (.inl rfl)) rfl, (by rw [eh]), (by rw [eh])⟩, fun h0 => ?_, fun k hk h1 h2 => ?_⟩
        · rw [hs, hv, eh, decide_eq_true hn] at h0; cases h0
        · show (if k = nib l.p (l.p % 16) then s else l.slot k) = l.slot k
          rw [if_neg fun e2 => h1 (by rw [e2]; exact h.no _ (Nat.le_refl _) hn)]
      · have e := putL_full hf hn
        exact ⟨_, _, _, e, ho, h, fun h0 => (by rw [hs, hv, eh, decide_eq_false hn] at h0; cases h0), fun _ => rfl, fun k _ _ _ => rfl⟩
  · have e := putL_bad hc
    refine ⟨_, _, _, e, ho, h, fun h0 => ?_, fun _ => rfl, fun k _ _ _ => rfl⟩
    rw [Bool.and_eq_true, Bool.and_eq_true] at h0
    exact absurd ⟨h.right, h0.1.1, h0.1.2⟩ hc

/-- The half that covers a mark has what the leaf has of it. -/
theorem halves_has {l L R : LeafV} {ns ng : Int} (h : Fit l) (hh : Halves l ns ng L R) (h2 : 2 ≤ l.p % 16) (m : MarkV) : hasL l m = hasL (if lessM m (l.rank (l.p % 16 / 2)).m = true then L else R) m := by
  have hm : l.p % 16 / 2 < l.p % 16 := by omega
  split
  · rename_i hl
    refine hasL_same h hh.fl fun x hx => ⟨?_, ?_⟩
    · rintro ⟨k, hk, rfl⟩
      have : k < l.p % 16 / 2 := by
        rcases Nat.lt_or_ge k (l.p % 16 / 2) with h3 | h3
        · exact h3
        · rw [← hx] at hl
          rcases Nat.lt_or_ge (l.p % 16 / 2) k with h4 | h4
          · have := h.rise h4 hk; rw [lessM_asym this] at hl; cases hl
          · rw [show k = l.p % 16 / 2 by omega, lessM_irr] at hl; cases hl
      exact ⟨k, by rw [hh.nl]; exact this, hh.rl k this⟩
    · rintro ⟨k, hk, rfl⟩
      rw [hh.nl] at hk
      exact ⟨k, by omega, (hh.rl k hk).symm⟩
  · rename_i hl
    refine hasL_same h hh.fr fun x hx => ⟨?_, ?_⟩
    · rintro ⟨k, hk, rfl⟩
      have : l.p % 16 / 2 ≤ k := by
        rcases Nat.lt_or_ge k (l.p % 16 / 2) with h3 | h3
        · exact absurd (by rw [← hx]; exact h.rise h3 hm) hl
        · exact h3
      exact ⟨k - l.p % 16 / 2, by rw [hh.nr]; omega, by rw [hh.rr _ (by omega), show l.p % 16 / 2 + (k - l.p % 16 / 2) = k by omega]⟩
    · rintro ⟨k, hk, rfl⟩
      rw [hh.nr] at hk
      exact ⟨l.p % 16 / 2 + k, by omega, (hh.rr k hk).symm⟩
end Go.Proofs.Ytgkjhlmfgaaddaa.LF
