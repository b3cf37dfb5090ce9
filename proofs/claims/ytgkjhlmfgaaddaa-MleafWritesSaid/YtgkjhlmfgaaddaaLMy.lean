/- A leaf's halves, in plain Lean. -/
import Derived.Test.YtgkjhlmfgaaddaaLMv
set_option linter.unusedVariables false
set_option linter.unusedSimpArgs false
namespace Go.Proofs.Ytgkjhlmfgaaddaa.LF
open Go.RowKit
set_option linter.unusedVariables false

/-- The right half, slot by slot; the left one, mark by mark. -/
def right0 (l : LeafV) : LeafV := { newL with high := l.high, bounded := l.bounded, ns := l.ns, ng := l.ng }
def rightIt (l : LeafV) : Nat → LeafV
  | 0 => right0 l
  | k + 1 => (putL (rightIt l k) (l.rank (l.p % 16 / 2 + k))).1
def leftIt (l : LeafV) : Nat → LeafV
  | 0 => l
  | k + 1 => (delL (leftIt l k) (l.rank (l.p % 16 - 1 - k)).m).1
def leftEnd (l : LeafV) (ns ng : Int) : LeafV := { leftIt l (l.p % 16 - l.p % 16 / 2) with high := (l.rank (l.p % 16 / 2)).m, bounded := true, ns := ns, ng := ng }
def rightEnd (l : LeafV) : LeafV := rightIt l (l.p % 16 - l.p % 16 / 2)
def splitL (l : LeafV) (ns ng : Int) : LeafV × LeafV × MarkV :=
  if rightL l = true ∧ 2 ≤ l.p % 16 then (leftEnd l ns ng, rightEnd l, (l.rank (l.p % 16 / 2)).m) else (l, noLeaf, noMark)

theorem newL_fit : Fit newL := (fit_iff _).1 (by kernel_rfl)
theorem right0_n (l : LeafV) : (right0 l).p % 16 = 0 := by
  have e : (right0 l).p = 17134975606245761280 := rfl
  rw [e]
theorem right0_fit {l : LeafV} (h : Fit l) : Fit (right0 l) := by
  have hn := newL_fit
  have e : (right0 l).p % 16 = 0 := right0_n l
  exact ⟨hn.rt, h.hd, fun k hk => by omega, fun k hk => by omega, fun k hk => by omega, fun k _ hk => hn.no k (by show 17134975606245761280 % 16 ≤ k; omega) hk⟩

/-- The right half, so far. -/
structure RightAt (l : LeafV) (k : Nat) (R : LeafV) : Prop where
  fit : Fit R
  ok : R.ok
  n : R.p % 16 = k
  rk : ∀ j, j < k → R.rank j = l.rank (l.p % 16 / 2 + j)
  high : R.high = l.high
  bounded : R.bounded = l.bounded
  ns : R.ns = l.ns
  ng : R.ng = l.ng
theorem RightAt.zero {l : LeafV} (h : Fit l) (ho : l.ok) : RightAt l 0 (right0 l) := ⟨right0_fit h, ⟨newL_ok.p, fun _ _ => noMark_ok, ho.high⟩, right0_n l, fun j hj => by omega, rfl, rfl, rfl, rfl⟩
theorem RightAt.next {l : LeafV} (h : Fit l) (ho : l.ok) {k : Nat} {R : LeafV} (r : RightAt l k R) (hk : l.p % 16 / 2 + k < l.p % 16) : RightAt l (k + 1) (putL R (l.rank (l.p % 16 / 2 + k))).1 := by
  have hn := h.le
  obtain ⟨s, hs⟩ : ∃ s, s = l.rank (l.p % 16 / 2 + k) := ⟨_, rfl⟩
  rw [← hs]
  have hrs : rightS s = true := by rw [hs]; exact h.rs _ hk
  have hcv : coversL R s.m = true := by
    unfold coversL; rw [r.bounded, r.high, hs]; exact h.cv _ hk
  have hso : s.m.ok := by rw [hs]; exact rank_ok ho (rt_yes h.rt) (by omega)
  have hlow : ∀ j, j < k → lessM (R.rank j).m s.m = true := fun j hj => by rw [r.rk j hj, hs]; exact h.rise (by omega) hk
  have hno : (findL R s.m).2 = false := found_none r.fit fun j hj e => by
    have := hlow j (by rw [r.n] at hj; exact hj)
    rw [e, lessM_irr] at this; cases this
  obtain ⟨e, g⟩ := putL_gap r.fit hrs hcv hno (by rw [r.n]; omega)
  have hi : (findL R s.m).1 = k := by
    have f := found r.fit s.m
    rcases Nat.lt_or_ge (findL R s.m).1 k with h1 | h1
    · have := f.hi hno _ (Nat.le_refl _) (by rw [r.n]; exact h1)
      rw [lessM_asym (hlow _ h1)] at this; cases this
    · have := f.le; rw [r.n] at this; omega
  rw [hi] at e g
  have ok := putL_ok r.ok hso
  have hh := putL_high (l := R) (s := s)
  have hlen := g.len
  rw [e] at ok hh ⊢
  refine ⟨g.next, ok, by rw [hlen, r.n], fun j hj => ?_, hh.1.trans r.high, hh.2.1.trans r.bounded, hh.2.2.1.trans r.ns, hh.2.2.2.trans r.ng⟩
  show (addL R k s).rank j = _
  rw [add_rank r.fit (by rw [r.n]; omega) g.le (by omega)]
  by_cases h1 : j < k
  · rw [if_pos h1, r.rk j h1]
  · rw [if_neg h1, if_pos (by omega), hs, show j = k by omega]
theorem rightIt_at {l : LeafV} (h : Fit l) (ho : l.ok) : ∀ k, l.p % 16 / 2 + k ≤ l.p % 16 → RightAt l k (rightIt l k)
  | 0, _ => .zero h ho
  | k + 1, hk => (rightIt_at h ho k (by omega)).next h ho (by omega)

/-- The left half, so far. -/
structure LeftAt (l : LeafV) (k : Nat) (R : LeafV) : Prop where
  fit : Fit R
  ok : R.ok
  n : R.p % 16 = l.p % 16 - k
  rk : ∀ j, j < l.p % 16 - k → R.rank j = l.rank j
  high : R.high = l.high
  bounded : R.bounded = l.bounded
theorem delL_high {l : LeafV} {m : MarkV} : (delL l m).1.high = l.high ∧ (delL l m).1.bounded = l.bounded := by
  unfold delL; split <;> exact ⟨rfl, rfl⟩
theorem LeftAt.last {l : LeafV} (h : Fit l) {k : Nat} {R : LeafV} (r : LeftAt l k R) (hk : k < l.p % 16) : findL R (l.rank (l.p % 16 - 1 - k)).m = (l.p % 16 - 1 - k, true) :=
  found_of r.fit (by rw [r.n]; omega) (by rw [r.rk _ (by omega)])
theorem LeftAt.next {l : LeafV} (h : Fit l) (ho : l.ok) {k : Nat} {R : LeafV} (r : LeftAt l k R) (hk : k < l.p % 16) : LeftAt l (k + 1) (delL R (l.rank (l.p % 16 - 1 - k)).m).1 := by
  have hn := h.le
  have hf := r.last h hk
  have ok := delL_ok r.ok (l.rank (l.p % 16 - 1 - k)).m
  have hh := delL_high (l := R) (m := (l.rank (l.p % 16 - 1 - k)).m)
  have e := delL_yes (l := R) (m := (l.rank (l.p % 16 - 1 - k)).m) (by rw [hf])
  rw [hf] at e
  rw [e] at ok hh ⊢
  have hi : l.p % 16 - 1 - k < R.p % 16 := by rw [r.n]; omega
  have hl := cut_len hi
  refine ⟨cut_fit r.fit hi, ok, ?_, fun j hj => ?_, hh.1.trans r.high, hh.2.trans r.bounded⟩
  · show (cutL R (l.p % 16 - 1 - k)).p % 16 = _
    rw [hl, r.n]; omega
  · show (cutL R (l.p % 16 - 1 - k)).rank j = _
    rw [cut_rank r.fit hi (by omega), if_pos (by omega), r.rk j (by omega)]
theorem leftIt_at {l : LeafV} (h : Fit l) (ho : l.ok) : ∀ k, k ≤ l.p % 16 → LeftAt l k (leftIt l k)
  | 0, _ => ⟨h, ho, rfl, fun _ _ => rfl, rfl, rfl⟩
  | k + 1, hk => (leftIt_at h ho k (by omega)).next h ho (by omega)

theorem rightS_mark {s : SlotV} (h : rightS s = true) : rightM s.m = true := by
  unfold rightS at h; rw [Bool.and_eq_true] at h; exact h.1
/-- The halves of a right leaf. -/
structure Halves (l : LeafV) (ns ng : Int) (L R : LeafV) : Prop where
  fl : Fit L
  fr : Fit R
  ol : L.ok
  or : R.ok
  nl : L.p % 16 = l.p % 16 / 2
  nr : R.p % 16 = l.p % 16 - l.p % 16 / 2
  rl : ∀ j, j < l.p % 16 / 2 → L.rank j = l.rank j
  rr : ∀ j, j < l.p % 16 - l.p % 16 / 2 → R.rank j = l.rank (l.p % 16 / 2 + j)
  cl : ∀ m, coversL L m = lessM m (l.rank (l.p % 16 / 2)).m
  cr : ∀ m, coversL R m = coversL l m
  hl : L.ns = ns ∧ L.ng = ng
  hr : R.ns = l.ns ∧ R.ng = l.ng
theorem halves_of {l : LeafV} (h : Fit l) (ho : l.ok) (h2 : 2 ≤ l.p % 16) (ns ng : Int) : Halves l ns ng (leftEnd l ns ng) (rightEnd l) := by
  have hn := h.le
  have r := rightIt_at h ho (l.p % 16 - l.p % 16 / 2) (by omega)
  have f := leftIt_at h ho (l.p % 16 - l.p % 16 / 2) (by omega)
  have e : l.p % 16 - (l.p % 16 - l.p % 16 / 2) = l.p % 16 / 2 := by omega
  have hm : l.p % 16 / 2 < l.p % 16 := by omega
  have hmo : (l.rank (l.p % 16 / 2)).m.ok := rank_ok ho (rt_yes h.rt) (by omega)
  have hcl : ∀ m, coversL (leftEnd l ns ng) m = lessM m (l.rank (l.p % 16 / 2)).m := fun m => by
    unfold coversL leftEnd; simp
  have hnl := f.n
  have hrl := f.rk
  rw [e] at hnl hrl
  have hcr : ∀ m, coversL (rightEnd l) m = coversL l m := fun m => by
    unfold coversL; rw [show (rightEnd l).bounded = _ from r.bounded, show (rightEnd l).high = _ from r.high]
  refine ⟨⟨f.fit.rt, ?_, fun k hk => f.fit.rs k hk, fun k hk => f.fit.lt k hk, fun k hk => ?_, fun k hk hk2 => f.fit.no k hk hk2⟩, r.fit, ⟨f.ok.p, f.ok.slot, hmo⟩, r.ok, hnl, r.n, hrl, r.rk, hcl, hcr, ⟨rfl, rfl⟩, ⟨r.ns, r.ng⟩⟩
  · show (if true = true then rightM (l.rank (l.p % 16 / 2)).m else _) = true
    rw [if_pos rfl]; exact rightS_mark (h.rs _ hm)
  · have hk : k < (leftIt l (l.p % 16 - l.p % 16 / 2)).p % 16 := hk
    rw [hnl] at hk
    rw [hcl]
    show lessM ((leftIt l (l.p % 16 - l.p % 16 / 2)).rank k).m _ = true
    rw [hrl k hk]
    exact h.rise hk hm
end Go.Proofs.Ytgkjhlmfgaaddaa.LF
