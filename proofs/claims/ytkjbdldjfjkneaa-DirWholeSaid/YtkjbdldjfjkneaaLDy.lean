/- The directory's plain law: what may take the place of ranges, and what becomes of it; whose a key is. -/
import Derived.Test.YtkjbdldjfjkneaaLDz
set_option linter.unusedVariables false
set_option linter.unusedSimpArgs false
namespace Go.Proofs.Ytkjbdldjfjkneaa.LF
open Go.RowKit
set_option linter.unusedVariables false

/-- Each is below the next one. -/
def Asc (l : List ByteArray) : Prop := ∀ k, k < l.length - 1 → ltS (l.getD k noBytes) (l.getD (k + 1) noBytes) = true
instance (l : List ByteArray) : Decidable (Asc l) := inferInstanceAs (Decidable (∀ k, k < l.length - 1 → ltS (l.getD k noBytes) (l.getD (k + 1) noBytes) = true))
theorem Asc.at {l : List ByteArray} (h : Asc l) (k : Nat) (hk : k + 1 < l.length) : ltS l[k] l[k + 1] = true := by
  have := h k (by omega)
  rw [List.getD_eq_getElem?_getD, List.getD_eq_getElem?_getD, List.getElem?_eq_getElem (by omega), List.getElem?_eq_getElem hk] at this
  exact this
theorem Asc.of {l : List ByteArray} (h : ∀ (k : Nat) (hk : k + 1 < l.length), ltS l[k] l[k + 1] = true) : Asc l := by
  intro k hk
  rw [List.getD_eq_getElem?_getD, List.getD_eq_getElem?_getD, List.getElem?_eq_getElem (by omega), List.getElem?_eq_getElem (by omega)]
  exact h k (by omega)
theorem Asc.rises {l : List ByteArray} (h : Asc l) : Rises l := by
  intro i j hij hj
  obtain ⟨n, rfl⟩ : ∃ n, j = i + 1 + n := ⟨j - (i + 1), by omega⟩
  induction n with
  | zero => exact h.at i hj
  | succ n ih => exact ltS_trans (ih (by omega) (by omega)) (h.at (i + 1 + n) hj)
theorem Rises.pair {l : List ByteArray} (h : Rises l) : l.Pairwise (fun a b => ltS a b = true) := by
  rw [List.pairwise_iff_getElem]
  exact fun i j _ hj hij => h i j hij hj
theorem Rises.of {l : List ByteArray} (h : l.Pairwise (fun a b => ltS a b = true)) : Rises l := by
  rw [List.pairwise_iff_getElem] at h
  exact fun i j hij hj => h i j _ hj hij

/-- May these stand in the place of n ranges from i on? -/
def Dv.fit {τ : Type} (d : Dv τ) (i n : Int) (los : List ByteArray) : Prop :=
  0 ≤ i ∧ 1 ≤ n ∧ i + n ≤ d.los.length ∧ 0 < los.length ∧ los.getD 0 noBytes = d.los.getD i.toNat noBytes ∧ Asc los ∧
    ((i + n).toNat < d.los.length → ltS (los.getD (los.length - 1) noBytes) (d.los.getD (i + n).toNat noBytes) = true)
instance {τ : Type} (d : Dv τ) (i n : Int) (los : List ByteArray) : Decidable (d.fit i n los) := by unfold Dv.fit; infer_instance
def Dv.rep {τ : Type} (d : Dv τ) (i n : Nat) (los : List ByteArray) (xs : List τ) : Dv τ :=
  ⟨d.los.take i ++ los ++ d.los.drop (i + n), d.xs.take i ++ xs ++ d.xs.drop (i + n)⟩
/-- What becomes of it: 0, or an error's number (a wrong range: 21; too many: 5). -/
def Dv.replace {τ : Type} (d : Dv τ) (i n : Int) (los : List ByteArray) (xs : List τ) : Option (Dv τ) × Int :=
  if los.length = xs.length ∧ d.fit i n los then
    if (d.los.length : Int) - n + los.length > 16 then (none, 5) else (some (d.rep i.toNat n.toNat los xs), 0)
  else (none, 21)

theorem getD_at {l : List ByteArray} {k : Nat} (h : k < l.length) : l.getD k noBytes = l[k] := by
  rw [List.getD_eq_getElem?_getD, List.getElem?_eq_getElem h]; rfl
theorem Rises.le {l : List ByteArray} (h : Rises l) {i j : Nat} (hij : i ≤ j) (hj : j < l.length) : ltS l[j] (l[i]'(by omega)) = false := by
  rcases Nat.lt_or_ge i j with h1 | h1
  · exact ltS_asymm (h i j h1 hj)
  · obtain rfl : i = j := by omega
    exact ltS_irrefl _
theorem ltS_of_le {a b c : ByteArray} (h : ltS a b = true) (k : ltS c b = false) : ltS a c = true := by
  cases hq : ltS b c with
  | true => exact ltS_trans h hq
  | false => rw [ltS_total hq k] at h; exact h
theorem ltS_of_le' {a b c : ByteArray} (k : ltS b a = false) (h : ltS b c = true) : ltS a c = true := by
  cases hq : ltS a b with
  | true => exact ltS_trans hq h
  | false => rw [ltS_total hq k]; exact h

theorem Dv.rep_wf {τ : Type} {d : Dv τ} (h : d.wf) {i n : Int} {los : List ByteArray} {xs : List τ} (hf : d.fit i n los) (hx : los.length = xs.length) (hs : (d.los.length : Int) - n + los.length ≤ 16) :
    (d.rep i.toNat n.toNat los xs).wf ∧ (d.rep i.toNat n.toNat los xs).los.length ≤ 16 := by
  obtain ⟨f1, f2, f3, f4, f5, f6, f7⟩ := hf
  obtain ⟨a, rfl⟩ : ∃ a : Nat, i = a := ⟨i.toNat, by omega⟩
  obtain ⟨c, rfl⟩ : ∃ c : Nat, n = c := ⟨n.toNat, by omega⟩
  simp only [Int.toNat_natCast] at *
  have e : ((a : Int) + (c : Int)).toNat = a + c := by omega
  rw [e] at f7
  have ha : a < d.los.length := by omega
  have hac : a + c ≤ d.los.length := by omega
  rw [getD_at f4, getD_at ha] at f5
  have hl : (d.rep a c los xs).los.length = a + los.length + (d.los.length - (a + c)) := by
    simp only [Dv.rep, List.length_append, List.length_take, List.length_drop]; omega
  have hlen := h.len
  have hr := f6.rises
  refine ⟨⟨?_, by rw [hl]; omega, ?_, ?_⟩, by rw [hl]; omega⟩
  · rw [hl]
    simp only [Dv.rep, List.length_append, List.length_take, List.length_drop]; omega
  · refine Rises.of ?_
    have hp := h.rises.pair
    simp only [Dv.rep]
    rw [List.pairwise_append, List.pairwise_append]
    have hA : ∀ x ∈ d.los.take a, ltS x d.los[a] = true := by
      intro x hx
      obtain ⟨q, hq⟩ := List.getElem?_of_mem hx
      rw [List.getElem?_take] at hq
      split at hq
      · rename_i hqa
        rw [List.getElem?_eq_getElem (by omega)] at hq
        obtain rfl := Option.some.inj hq
        exact h.rises q a hqa ha
      · cases hq
    have hB : ∀ y ∈ los, ltS y los[0] = false ∧ ltS los[los.length - 1] y = false := by
      intro y hy
      obtain ⟨q, hq, rfl⟩ := List.getElem_of_mem hy
      exact ⟨hr.le (Nat.zero_le _) hq, hr.le (by omega) (by omega)⟩
    have hC : ∀ z ∈ d.los.drop (a + c), ∃ hlt : a + c < d.los.length, ltS z d.los[a + c] = false := by
      intro z hz
      obtain ⟨q, hq⟩ := List.getElem?_of_mem hz
      rw [List.getElem?_drop] at hq
      have hlt := (List.getElem?_eq_some_iff.1 hq).1
      rw [List.getElem?_eq_getElem hlt] at hq
      obtain rfl := Option.some.inj hq
      exact ⟨by omega, h.rises.le (by omega) hlt⟩
    refine ⟨⟨hp.sublist (List.take_sublist _ _), hr.pair, fun x hx y hy => ?_⟩, hp.sublist (List.drop_sublist _ _), fun x hx z hz => ?_⟩
    · have h1 := hA x hx
      rw [← f5] at h1
      exact ltS_of_le h1 (hB y hy).1
    · obtain ⟨hlt, hz⟩ := hC z hz
      rw [List.mem_append] at hx
      rcases hx with hx | hx
      · exact ltS_of_le (ltS_trans (hA x hx) (h.rises a (a + c) (by omega) hlt)) hz
      · have h2 := f7 hlt
        rw [getD_at (by omega), getD_at hlt] at h2
        exact ltS_of_le (ltS_of_le' (hB x hx).2 h2) hz
  · have h0 := h.first
    simp only [Dv.rep]
    rcases Nat.eq_zero_or_pos a with rfl | hpos
    · rw [List.take_zero, List.nil_append, List.getElem?_append_left f4, List.getElem?_eq_getElem f4, f5, ← h0, List.getElem?_eq_getElem]
    · rw [List.append_assoc, List.getElem?_append_left (by rw [List.length_take]; omega), List.getElem?_take, if_pos hpos]
      exact h0

theorem Dv.wf.spot_lo {τ : Type} {d : Dv τ} (h : d.wf) (key : ByteArray) : ltS key (d.los[d.spot key]'(h.spot_lt key)) = false := by
  have hlt := h.spot_lt key
  cases hf : hasB d.los key with
  | true =>
    have e := h.spot_yes key hf
    have h1 : d.los[cntB d.los key]? = some key := of_decide_eq_true hf
    rw [← e, List.getElem?_eq_getElem hlt] at h1
    rw [Option.some.inj h1]; exact ltS_irrefl _
  | false =>
    have e := h.spot_no key hf
    exact ltS_asymm (cntB_lt (by omega) hlt)
theorem Dv.wf.spot_hi {τ : Type} {d : Dv τ} (h : d.wf) (key : ByteArray) {j : Nat} (hj : d.spot key < j) (hl : j < d.los.length) : ltS key d.los[j] = true := by
  have hlt := h.spot_lt key
  cases hf : hasB d.los key with
  | true =>
    have e := h.spot_yes key hf
    have h1 : d.los[cntB d.los key]? = some key := of_decide_eq_true hf
    rw [← e, List.getElem?_eq_getElem hlt] at h1
    have := h.rises _ _ hj hl
    rwa [Option.some.inj h1] at this
  | false =>
    have e := h.spot_no key hf
    have h1 := cntB_ge h.rises (key := key) (by omega) hl
    cases hq : ltS key d.los[j] with
    | true => rfl
    | false =>
      exfalso
      have h2 := ltS_total h1 hq
      have h3 : cntB d.los key = j := by
        have h4 : ltS d.los[cntB d.los key] key = false := cntB_stop (by omega)
        rcases Nat.lt_or_ge (cntB d.los key) j with h5 | h5
        · have := h.rises _ _ h5 hl
          rw [h2, h4] at this; cases this
        · omega
      unfold hasB at hf
      rw [h3, List.getElem?_eq_getElem hl, h2] at hf
      simp at hf
/-- Just one range has a key. -/
theorem Dv.wf.spot_iff {τ : Type} {d : Dv τ} (h : d.wf) (key : ByteArray) {i : Nat} (hi : i < d.los.length) :
    (ltS key d.los[i] = false ∧ ∀ hn : i + 1 < d.los.length, ltS key d.los[i + 1] = true) ↔ i = d.spot key := by
  have hlt := h.spot_lt key
  constructor
  · rintro ⟨h1, h2⟩
    rcases Nat.lt_trichotomy i (d.spot key) with h3 | h3 | h3
    · have h4 := h2 (by omega)
      have h5 := h.spot_lo key
      have h6 := h.rises.le (show i + 1 ≤ d.spot key by omega) hlt
      rw [ltS_of_le h4 h6] at h5; cases h5
    · exact h3
    · rw [h.spot_hi key h3 hi] at h1; cases h1
  · rintro rfl
    exact ⟨h.spot_lo key, fun hn => h.spot_hi key (Nat.lt_succ_self _) hn⟩
theorem Dv.wf.spot_at {τ : Type} {d : Dv τ} (h : d.wf) {i : Nat} (hi : i < d.los.length) : d.spot d.los[i] = i := by
  refine ((h.spot_iff _ hi).1 ⟨ltS_irrefl _, fun hn => h.rises _ _ (Nat.lt_succ_self _) hn⟩).symm
theorem Dv.wf.spot_mono {τ : Type} {d : Dv τ} (h : d.wf) {a b : ByteArray} (hab : ltS b a = false) : d.spot a ≤ d.spot b := by
  rcases Nat.lt_or_ge (d.spot b) (d.spot a) with h1 | h1
  · exfalso
    have h2 := h.spot_hi b h1 (h.spot_lt a)
    have h3 := h.spot_lo a
    have h4 := ltS_of_le h2 h3
    rw [hab] at h4; cases h4
  · exact h1
end Go.Proofs.Ytkjbdldjfjkneaa.LF
