/- Leaves, in plain Lean: what Put and Delete make of a right leaf. -/
import Derived.Test.YtgkjhlmfgaaddaaLMr
import Derived.Test.YtgkjhlmfgaaddaaLMk
set_option linter.unusedVariables false
set_option linter.unusedSimpArgs false
namespace Go.Proofs.Ytgkjhlmfgaaddaa.LF
open Go.RowKit
set_option linter.unusedVariables false

/-- The leaves that Put and Delete make. -/
def hadL (l : LeafV) (i : Nat) (s : SlotV) : LeafV := l.up (nib l.p i) s
def addL (l : LeafV) (i : Nat) (s : SlotV) : LeafV := LeafV.up { l with p := insW l.p i } (nib l.p (l.p % 16)) s
def cutL (l : LeafV) (i : Nat) : LeafV := LeafV.up { l with p := remW l.p i } (nib l.p i) noSlot

theorem had_rank {l : LeafV} (h : Fit l) {i k : Nat} (hi : i < 15) (hk : k < 15) (s : SlotV) : (hadL l i s).rank k = if k = i then s else l.rank k := by
  show (if nib l.p k = nib l.p i then s else l.slot (nib l.p k)) = _
  by_cases e : k = i
  · rw [if_pos e, if_pos (by rw [e])]
  · rw [if_neg e, if_neg fun e2 => e (nib_inj h.rt hk hi e2)]; rfl
theorem add_rank {l : LeafV} (h : Fit l) {i k : Nat} (hn : l.p % 16 < 15) (hi : i ≤ l.p % 16) (hk : k < 15) (s : SlotV) : (addL l i s).rank k = if k < i then l.rank k else if k = i then s else if k ≤ l.p % 16 then l.rank (k - 1) else l.rank k := by
  show (if nib (insW l.p i) k = nib l.p (l.p % 16) then s else l.slot (nib (insW l.p i) k)) = _
  rw [insW_nib hn hi hk]
  split
  · rw [if_neg fun e => by have := nib_inj h.rt hk hn e; omega]; rfl
  · split
    · rw [if_pos rfl]
    · split
      · rw [if_neg fun e => by have := nib_inj h.rt (by omega) hn e; omega]; rfl
      · rw [if_neg fun e => by have := nib_inj h.rt hk hn e; omega]; rfl
theorem cut_rank {l : LeafV} (h : Fit l) {i k : Nat} (hi : i < l.p % 16) (hk : k < 15) : (cutL l i).rank k = if k < i then l.rank k else if k < l.p % 16 - 1 then l.rank (k + 1) else if k = l.p % 16 - 1 then noSlot else l.rank k := by
  have hn := h.le
  show (if nib (remW l.p i) k = nib l.p i then noSlot else l.slot (nib (remW l.p i) k)) = _
  rw [remW_nib hn hi hk]
  split
  · rw [if_neg fun e => by have := nib_inj h.rt hk (by omega) e; omega]; rfl
  · split
    · rw [if_neg fun e => by have := nib_inj h.rt (by omega) (by omega) e; omega]; rfl
    · split
      · rw [if_pos rfl]
      · rw [if_neg fun e => by have := nib_inj h.rt hk (by omega) e; omega]; rfl

/-- What stands in a leaf. -/
def Has (l : LeafV) (x : SlotV) : Prop := ∃ k, k < l.p % 16 ∧ l.rank k = x

/-- A slot that is put where its mark stands. -/
structure Hit (l : LeafV) (s : SlotV) (i : Nat) : Prop where
  fit : Fit l
  lt : i < l.p % 16
  eq : (l.rank i).m = s.m
  rs : rightS s = true
  cv : coversL l s.m = true
theorem Hit.next {l : LeafV} {s : SlotV} {i : Nat} (h : Hit l s i) : Fit (hadL l i s) := by
  have hn := h.fit.le
  have hi : i < 15 := Nat.lt_of_lt_of_le h.lt hn
  have hm : ∀ k, k < 15 → ((hadL l i s).rank k).m = (l.rank k).m := fun k hk => by
    rw [had_rank h.fit hi hk]
    split
    · rename_i e; rw [e, h.eq]
    · rfl
  refine ⟨h.fit.rt, h.fit.hd, fun k hk => ?_, fun k hk => ?_, fun k hk => ?_, fun k hk hk2 => ?_⟩
  · have hk : k < l.p % 16 := hk
    rw [had_rank h.fit hi (by omega)]
    split
    · exact h.rs
    · exact h.fit.rs k hk
  · have hk : k + 1 < l.p % 16 := hk
    rw [hm k (by omega), hm (k + 1) (by omega)]
    exact h.fit.lt k hk
  · have hk : k < l.p % 16 := hk
    rw [hm k (by omega)]
    exact h.fit.cv k hk
  · have hk : l.p % 16 ≤ k := hk
    rw [had_rank h.fit hi hk2, if_neg (by have := h.lt; omega)]
    exact h.fit.no k hk hk2
theorem Hit.has {l : LeafV} {s : SlotV} {i : Nat} (h : Hit l s i) (x : SlotV) : Has (hadL l i s) x ↔ x = s ∨ (Has l x ∧ x.m ≠ s.m) := by
  have hn := h.fit.le
  have hi : i < 15 := Nat.lt_of_lt_of_le h.lt hn
  constructor
  · rintro ⟨k, hk, rfl⟩
    have hk : k < l.p % 16 := hk
    rw [had_rank h.fit hi (by omega)]
    split
    · exact .inl rfl
    · rename_i e
      refine .inr ⟨⟨k, hk, rfl⟩, fun e2 => ?_⟩
      rw [← h.eq] at e2
      rcases Nat.lt_or_gt_of_ne e with h3 | h3
      · have := h.fit.rise h3 h.lt; rw [e2, lessM_irr] at this; cases this
      · have := h.fit.rise h3 hk; rw [e2, lessM_irr] at this; cases this
  · rintro (rfl | ⟨⟨k, hk, rfl⟩, hne⟩)
    · exact ⟨i, h.lt, by rw [had_rank h.fit hi hi, if_pos rfl]⟩
    · refine ⟨k, hk, ?_⟩
      rw [had_rank h.fit hi (by omega), if_neg fun e => hne (by rw [e, h.eq])]

/-- A slot that is put anew. -/
structure Gap (l : LeafV) (s : SlotV) (i : Nat) : Prop where
  fit : Fit l
  le : i ≤ l.p % 16
  lo : ∀ j, j < i → lessM (l.rank j).m s.m = true
  hi : ∀ j, i ≤ j → j < l.p % 16 → lessM s.m (l.rank j).m = true
  rs : rightS s = true
  cv : coversL l s.m = true
  n : l.p % 16 < 15
theorem Gap.len {l : LeafV} {s : SlotV} {i : Nat} (h : Gap l s i) : (addL l i s).p % 16 = l.p % 16 + 1 := insW_len h.n
theorem Gap.next {l : LeafV} {s : SlotV} {i : Nat} (h : Gap l s i) : Fit (addL l i s) := by
  have hn := h.n
  have hle := h.le
  have hl := h.len
  have hr : ∀ k, k < 15 → (addL l i s).rank k = _ := fun k hk => add_rank h.fit hn hle hk s
  refine ⟨insW_rt h.fit.rt hn hle, h.fit.hd, fun k hk => ?_, fun k hk => ?_, fun k hk => ?_, fun k hk hk2 => ?_⟩
  · rw [hl] at hk
    rw [hr k (by omega)]
    split
    · exact h.fit.rs k (by omega)
    · split
      · exact h.rs
      · rw [if_pos (by omega)]; exact h.fit.rs _ (by omega)
  · rw [hl] at hk
    rw [hr k (by omega), hr (k + 1) (by omega)]
    rcases Nat.lt_trichotomy k i with h1 | h1 | h1
    · rw [if_pos h1]
      by_cases h2 : k + 1 < i
      · rw [if_pos h2]; exact h.fit.lt k (by omega)
      · rw [if_neg h2, if_pos (by omega)]; exact h.lo k h1
    · rw [if_neg (by omega), if_pos h1, if_neg (by omega), if_neg (by omega), if_pos (by omega), Nat.add_sub_cancel]
      exact h.hi k (by omega) (by omega)
    · rw [if_neg (by omega), if_neg (by omega), if_pos (by omega), if_neg (by omega), if_neg (by omega), if_pos (by omega), Nat.add_sub_cancel]
      have := h.fit.lt (k - 1) (by omega)
      rwa [show k - 1 + 1 = k by omega] at this
  · rw [hl] at hk
    rw [hr k (by omega)]
    split
    · exact h.fit.cv k (by omega)
    · split
      · exact h.cv
      · rw [if_pos (by omega)]; exact h.fit.cv _ (by omega)
  · rw [hl] at hk
    rw [hr k hk2, if_neg (by omega), if_neg (by omega), if_neg (by omega)]
    exact h.fit.no k (by omega) hk2
theorem Gap.has {l : LeafV} {s : SlotV} {i : Nat} (h : Gap l s i) (x : SlotV) : Has (addL l i s) x ↔ x = s ∨ (Has l x ∧ x.m ≠ s.m) := by
  have hn := h.n
  have hle := h.le
  have hl := h.len
  have hno : ∀ j, j < l.p % 16 → (l.rank j).m ≠ s.m := fun j hj e => by
    rcases Nat.lt_or_ge j i with h1 | h1
    · have := h.lo j h1; rw [e, lessM_irr] at this; cases this
    · have := h.hi j h1 hj; rw [e, lessM_irr] at this; cases this
  constructor
  · rintro ⟨k, hk, rfl⟩
    rw [hl] at hk
    rw [add_rank h.fit hn hle (by omega)]
    split
    · exact .inr ⟨⟨k, by omega, rfl⟩, hno k (by omega)⟩
    · split
      · exact .inl rfl
      · rw [if_pos (by omega)]
        exact .inr ⟨⟨k - 1, by omega, rfl⟩, hno _ (by omega)⟩
  · rintro (rfl | ⟨⟨k, hk, rfl⟩, _⟩)
    · exact ⟨i, by rw [hl]; omega, by rw [add_rank h.fit hn hle (by omega), if_neg (by omega), if_pos rfl]⟩
    · by_cases h1 : k < i
      · exact ⟨k, by rw [hl]; omega, by rw [add_rank h.fit hn hle (by omega), if_pos h1]⟩
      · exact ⟨k + 1, by rw [hl]; omega, by rw [add_rank h.fit hn hle (by omega), if_neg (by omega), if_neg (by omega), if_pos (by omega), Nat.add_sub_cancel]⟩

/-- A leaf without a rank. -/
theorem cut_len {l : LeafV} {i : Nat} (hi : i < l.p % 16) : (cutL l i).p % 16 = l.p % 16 - 1 := remW_len hi
theorem cut_fit {l : LeafV} (h : Fit l) {i : Nat} (hi : i < l.p % 16) : Fit (cutL l i) := by
  have hn := h.le
  have hl := cut_len hi
  have hr : ∀ k, k < 15 → (cutL l i).rank k = _ := fun k hk => cut_rank h hi hk
  refine ⟨remW_rt h.rt hn hi, h.hd, fun k hk => ?_, fun k hk => ?_, fun k hk => ?_, fun k hk hk2 => ?_⟩
  · rw [hl] at hk
    rw [hr k (by omega)]
    split
    · exact h.rs k (by omega)
    · exact h.rs _ (by omega)
  · rw [hl] at hk
    rw [hr k (by omega), hr (k + 1) (by omega)]
    by_cases h1 : k < i
    · rw [if_pos h1]
      by_cases h2 : k + 1 < i
      · rw [if_pos h2]; exact h.lt k (by omega)
      · rw [if_neg h2, if_pos (by omega)]; exact h.rise (by omega) (by omega)
    · rw [if_neg h1, if_pos (by omega), if_neg (by omega), if_pos (by omega)]
      exact h.lt (k + 1) (by omega)
  · rw [hl] at hk
    rw [hr k (by omega)]
    split
    · exact h.cv k (by omega)
    · exact h.cv _ (by omega)
  · rw [hl] at hk
    rw [hr k hk2, if_neg (by omega), if_neg (by omega)]
    split
    · rfl
    · exact h.no k (by omega) hk2
theorem cut_has {l : LeafV} (h : Fit l) {i : Nat} (hi : i < l.p % 16) (x : SlotV) : Has (cutL l i) x ↔ (Has l x ∧ x.m ≠ (l.rank i).m) := by
  have hn := h.le
  have hl := cut_len hi
  have hne : ∀ j, j < l.p % 16 → j ≠ i → (l.rank j).m ≠ (l.rank i).m := fun j hj e e2 => by
    rcases Nat.lt_or_gt_of_ne e with h3 | h3
    · have := h.rise h3 hi; rw [e2, lessM_irr] at this; cases this
    · have := h.rise h3 hj; rw [e2, lessM_irr] at this; cases this
  constructor
  · rintro ⟨k, hk, rfl⟩
    rw [hl] at hk
    rw [cut_rank h hi (by omega)]
    split
    · exact ⟨⟨k, by omega, rfl⟩, hne k (by omega) (by omega)⟩
    · exact ⟨⟨k + 1, by omega, rfl⟩, hne _ (by omega) (by omega)⟩
  · rintro ⟨⟨k, hk, rfl⟩, h2⟩
    have h3 : k ≠ i := fun e => h2 (by rw [e])
    by_cases h1 : k < i
    · exact ⟨k, by rw [hl]; omega, by rw [cut_rank h hi (by omega), if_pos h1]⟩
    · exact ⟨k - 1, by rw [hl]; omega, by rw [cut_rank h hi (by omega), if_neg (by omega), if_pos (by omega), show k - 1 + 1 = k by omega]⟩

/-- Two leaves in which the same stands are alike. -/
theorem has_alike {a b : LeafV} (ha : Fit a) (hb : Fit b) (h : ∀ x, Has a x ↔ Has b x) : a.p % 16 = b.p % 16 ∧ ∀ k, k < a.p % 16 → a.rank k = b.rank k := by
  have step : ∀ {a b : LeafV}, Fit a → Fit b → (∀ x, Has a x ↔ Has b x) → ∀ k, k ≤ a.p % 16 → k ≤ b.p % 16 ∧ ∀ j, j < k → a.rank j = b.rank j := by
    intro a b ha hb h k
    induction k with
    | zero => intro _; exact ⟨by omega, fun j hj => by omega⟩
    | succ k ih =>
      intro hk
      obtain ⟨h1, h2⟩ := ih (by omega)
      obtain ⟨j, hj, e⟩ := (h _).1 ⟨k, by omega, rfl⟩
      have hjk : k ≤ j := by
        rcases Nat.lt_or_ge j k with h3 | h3
        · have := ha.rise h3 (by omega)
          rw [h2 j h3, e, lessM_irr] at this; cases this
        · exact h3
      obtain ⟨j', hj', e'⟩ := (h (b.rank k)).2 ⟨k, by omega, rfl⟩
      have hkj : j' = k := by
        rcases Nat.lt_trichotomy j' k with h3 | h3 | h3
        · have := hb.rise h3 (by omega)
          rw [← h2 j' h3, e', lessM_irr] at this; cases this
        · exact h3
        · have h4 := ha.rise h3 hj'
          rw [e', ← e] at h4
          rcases Nat.lt_or_ge k j with h5 | h5
          · have := lessM_asym (hb.rise h5 hj); rw [this] at h4; cases h4
          · obtain rfl : j = k := by omega
            rw [lessM_irr] at h4; cases h4
      refine ⟨by omega, fun q hq => ?_⟩
      rcases Nat.lt_or_ge q k with h3 | h3
      · exact h2 q h3
      · obtain rfl : q = k := by omega
        rw [← e', hkj]
  obtain ⟨h1, h2⟩ := step ha hb h _ (Nat.le_refl _)
  obtain ⟨h3, _⟩ := step hb ha (fun x => (h x).symm) _ (Nat.le_refl _)
  exact ⟨by omega, h2⟩

/-- Put, case by case. -/
theorem putL_bad {l : LeafV} {s : SlotV} (h : ¬ (rightL l = true ∧ rightS s = true ∧ coversL l s.m = true)) : putL l s = (l, noSlot, false) := by
  unfold putL; rw [if_neg h]
theorem putL_hit {l : LeafV} {s : SlotV} (h : Fit l) (hs : rightS s = true) (hc : coversL l s.m = true) (hf : (findL l s.m).2 = true) : putL l s = (hadL l (findL l s.m).1 s, l.rank (findL l s.m).1, true) ∧ Hit l s (findL l s.m).1 := by
  have f := (found h s.m).at_ hf
  exact ⟨by unfold putL; rw [if_pos ⟨h.right, hs, hc⟩, if_pos hf]; rfl, h, f.1, f.2, hs, hc⟩
theorem putL_gap {l : LeafV} {s : SlotV} (h : Fit l) (hs : rightS s = true) (hc : coversL l s.m = true) (hf : (findL l s.m).2 = false) (hn : l.p % 16 < 15) : putL l s = (addL l (findL l s.m).1 s, noSlot, false) ∧ Gap l s (findL l s.m).1 := by
  have f := found h s.m
  exact ⟨by unfold putL; rw [if_pos ⟨h.right, hs, hc⟩, if_neg (by rw [hf]; decide), if_pos hn]; rfl, h, f.le, f.lo, f.hi hf, hs, hc, hn⟩
theorem putL_full {l : LeafV} {s : SlotV} (hf : (findL l s.m).2 = false) (hn : ¬ l.p % 16 < 15) : putL l s = (l, noSlot, false) := by
  unfold putL
  split
  · split
    · rename_i h; rw [hf] at h; cases h
    · rfl
  · rfl
theorem delL_yes {l : LeafV} {m : MarkV} (h : (findL l m).2 = true) : delL l m = (cutL l (findL l m).1, l.rank (findL l m).1, true) := by
  unfold delL; rw [if_pos h]; rfl
theorem delL_no {l : LeafV} {m : MarkV} (h : (findL l m).2 = false) : delL l m = (l, noSlot, false) := by
  unfold delL; rw [if_neg (by rw [h]; decide)]

/-- What a slot that may be put, and has room, makes of a leaf. -/
theorem putL_fit {l : LeafV} {s : SlotV} (h : Fit l) : Fit (putL l s).1 := by
  by_cases hc : rightL l = true ∧ rightS s = true ∧ coversL l s.m = true
  · cases hf : (findL l s.m).2 with
    | true => obtain ⟨e, k⟩ := putL_hit h hc.2.1 hc.2.2 hf; rw [e]; exact k.next
    | false =>
      by_cases hn : l.p % 16 < 15
      · obtain ⟨e, k⟩ := putL_gap h hc.2.1 hc.2.2 hf hn; rw [e]; exact k.next
      · rw [putL_full hf hn]; exact h
  · rw [putL_bad hc]; exact h
theorem putL_has {l : LeafV} {s : SlotV} (h : Fit l) (hs : rightS s = true) (hc : coversL l s.m = true) (hn : l.p % 16 < 15) (x : SlotV) : Has (putL l s).1 x ↔ x = s ∨ (Has l x ∧ x.m ≠ s.m) := by
  cases hf : (findL l s.m).2 with
  | true => obtain ⟨e, k⟩ := putL_hit h hs hc hf; rw [e]; exact k.has x
  | false => obtain ⟨e, k⟩ := putL_gap h hs hc hf hn; rw [e]; exact k.has x
theorem putL_len {l : LeafV} {s : SlotV} (h : Fit l) : (putL l s).1.p % 16 ≤ l.p % 16 + 1 := by
  by_cases hc : rightL l = true ∧ rightS s = true ∧ coversL l s.m = true
  · cases hf : (findL l s.m).2 with
    | true => obtain ⟨e, k⟩ := putL_hit h hc.2.1 hc.2.2 hf; rw [e]; show l.p % 16 ≤ _; omega
    | false =>
      by_cases hn : l.p % 16 < 15
      · obtain ⟨e, k⟩ := putL_gap h hc.2.1 hc.2.2 hf hn; rw [e]; exact Nat.le_of_eq k.len
      · rw [putL_full hf hn]; show l.p % 16 ≤ _; omega
  · rw [putL_bad hc]; show l.p % 16 ≤ _; omega
theorem putL_high {l : LeafV} {s : SlotV} : (putL l s).1.high = l.high ∧ (putL l s).1.bounded = l.bounded ∧ (putL l s).1.ns = l.ns ∧ (putL l s).1.ng = l.ng := by
  unfold putL
  split
  · split
    · exact ⟨rfl, rfl, rfl, rfl⟩
    · split <;> exact ⟨rfl, rfl, rfl, rfl⟩
  · exact ⟨rfl, rfl, rfl, rfl⟩
theorem putL_covers {l : LeafV} {s : SlotV} (m : MarkV) : coversL (putL l s).1 m = coversL l m := by
  unfold coversL; rw [putL_high.1, putL_high.2.1]

/-- Two slots of unlike marks, put in either row. -/
theorem put_rows {l : LeafV} (h : Fit l) {s t : SlotV} (hs : rightS s = true) (ht : rightS t = true) (cs : coversL l s.m = true) (ct : coversL l t.m = true) (hn : l.p % 16 ≤ 13) (hne : s.m ≠ t.m) :
    (putL (putL l s).1 t).1.p % 16 = (putL (putL l t).1 s).1.p % 16 ∧ ∀ k, k < (putL (putL l s).1 t).1.p % 16 → (putL (putL l s).1 t).1.rank k = (putL (putL l t).1 s).1.rank k := by
  have h1 := putL_len (s := s) h
  have h2 := putL_len (s := t) h
  refine has_alike (putL_fit (putL_fit h)) (putL_fit (putL_fit h)) fun x => ?_
  rw [putL_has (putL_fit h) ht (by rw [putL_covers]; exact ct) (by omega), putL_has h hs cs (by omega), putL_has (putL_fit h) hs (by rw [putL_covers]; exact cs) (by omega), putL_has h ht ct (by omega)]
  constructor
  · rintro (rfl | ⟨rfl | ⟨h3, h4⟩, h5⟩)
    · exact .inr ⟨.inl rfl, fun e => hne e.symm⟩
    · exact .inl rfl
    · exact .inr ⟨.inr ⟨h3, h5⟩, h4⟩
  · rintro (rfl | ⟨rfl | ⟨h3, h4⟩, h5⟩)
    · exact .inr ⟨.inl rfl, hne⟩
    · exact .inl rfl
    · exact .inr ⟨.inr ⟨h3, h5⟩, h4⟩

theorem at_rank {l : LeafV} (h : Fit l) {k : Nat} (hk : k < l.p % 16) : atL l (k : Nat) = (l.rank k, true) := by
  unfold atL; rw [if_pos ⟨by omega, by omega, h.right⟩, Int.toNat_natCast]
theorem slot_self (s : SlotV) : (((s.m.s == s.m.s) && ((s.m.c == s.m.c) && true)) && (decide (s.rest = s.rest) && (decide (s.value = s.value) && ((s.deep == s.deep) && (((s.ls == s.ls) && ((s.lg == s.lg) && true)) && true))))) = true := by simp

def sameS (s t : SlotV) : Bool := ((s.m.s == t.m.s) && ((s.m.c == t.m.c) && true)) && (decide (s.rest = t.rest) && (decide (s.value = t.value) && ((s.deep == t.deep) && (((s.ls == t.ls) && ((s.lg == t.lg) && true)) && true))))
theorem sameS_self (s : SlotV) : sameS s s = true := slot_self s
end Go.Proofs.Ytgkjhlmfgaaddaa.LF
