/- The B-link node: plain: what becomes of a right node; its halves. -/
import Derived.Test.YtjcpcgneghanfaaLBr
set_option linter.unusedVariables false
set_option linter.unusedSimpArgs false
namespace Go.Proofs.Ytjcpcgneghanfaa.LF
open Go.RowKit
set_option linter.unusedVariables false

theorem takes_no {n : NdV} {k : ByteArray} (h : ¬ (n.leaf = true ∧ coversN n k = true)) : takesN n k = false := by
  unfold takesN
  cases hl : n.leaf with
  | false => rfl
  | true =>
    cases hc : coversN n k with
    | false => simp
    | true => exact absurd ⟨hl, hc⟩ h
theorem takes_wrong {n : NdV} {k : ByteArray} (h : rightN n = false) : takesN n k = false := by unfold takesN; rw [h]; simp
theorem put_no {n : NdV} {k v : ByteArray} (h : takesN n k = false) : putN n k v = (n, noBytes, false) := by unfold putN; rw [if_neg (by rw [h]; decide)]
theorem del_no {n : NdV} {k : ByteArray} (h : takesN n k = false) : delN n k = (n, noBytes, false) := by unfold delN; rw [if_neg (by rw [h]; simp)]

/-- What becomes of a right node by a Put, a Delete. -/
structure Ch (n : NdV) (key other text : ByteArray) (a b : NdV) (had there : Bool) : Prop where
  ra : rightN a = true
  rb : rightN b = true
  oa : a.ok
  ob : b.ok
  eq : had = there
  lf : n.leaf = true → coversN n key = true → valueN a key = (text, true) ∧ (valueN b key).2 = false ∧ (had = true → a.keys.length = n.keys.length) ∧ (had = false → a.keys.length = n.keys.length + 1) ∧ (other ≠ key → valueN a other = valueN n other ∧ valueN b other = valueN n other)
theorem ch_of {n : NdV} (hr : rightN n = true) (hk : n.keys.length ≤ 300 ∧ n.vals.length ≤ 300 ∧ n.kids.length ≤ 301) (key other text : ByteArray) : Ch n key other text (putN n key text).1 (delN n key).1 (putN n key text).2.2 (delN n key).2.2 := by
  by_cases h : n.leaf = true ∧ coversN n key = true
  · obtain ⟨hl, hc⟩ := h
    obtain ⟨l, L⟩ := Lf.of hr hl
    have hll := L.len
    rw [L.put hc text, L.del hc]
    have La := L.set hc text
    have Lb := L.drop key
    have h1 := setP_len l key text
    have h2 := dropP_len l key
    refine ⟨La.right, Lb.right, La.fit (by omega), Lb.fit (by omega), rfl, fun _ _ => ⟨?_, ?_, fun hh => ?_, fun hh => ?_, fun hne => ⟨?_, ?_⟩⟩⟩
    · rw [La.value, getP_set L.srt, if_pos rfl]; rfl
    · rw [Lb.value, getP_drop L.srt, if_pos rfl]; rfl
    · show ((setP l key text).map Pr.key).length = n.keys.length
      rw [List.length_map, ← hll, setP, if_pos (by rw [getP_has]; exact hh), List.length_set]
    · show ((setP l key text).map Pr.key).length = n.keys.length + 1
      rw [List.length_map, ← hll, setP, if_neg (by rw [getP_has, show (getP l key).isSome = false from hh]; decide), insL_length _ (posP_le _ _)]
    · rw [La.value, L.value, getP_set L.srt, if_neg hne]
    · rw [Lb.value, L.value, getP_drop L.srt, if_neg hne]
  · have ht := takes_no h
    rw [put_no ht, del_no ht]
    have hn : n.ok := ⟨by omega, by omega, by omega⟩
    exact ⟨hr, hr, hn, hn, rfl, fun a b => absurd ⟨a, b⟩ h⟩
theorem add_all {n : NdV} (hr : rightN n = true) (hk : n.keys.length ≤ 300 ∧ n.vals.length ≤ 300 ∧ n.kids.length ≤ 301) (sep : ByteArray) (kid : HdV) : rightN (addN n sep kid) = true ∧ (addN n sep kid).ok := by
  cases h : shutN n sep with
  | true =>
    have e : addN n sep kid = n := by rw [addN, if_pos h]
    rw [e]; exact ⟨hr, by omega, by omega, by omega⟩
  | false =>
    obtain ⟨_, hl, _, _⟩ := shutN_no h
    obtain ⟨hv, hkd⟩ := rightN_inner hr hl
    have hcl := cntK_le n.keys sep
    rw [add_is h]
    refine ⟨add_right h, ?_, hv ▸ (by decide), ?_⟩
    · show (insL n.keys (cntK n.keys sep) sep).length ≤ 100000
      rw [insL_length _ hcl]; omega
    · show (insL n.kids (cntK n.keys sep + 1) kid).length ≤ 100000
      rw [insL_length _ (by omega)]; omega

theorem rises_take {l : List ByteArray} (h : risesL l = true) (m : Nat) : risesL (l.take m) = true := by
  rw [risesL_iff] at *
  intro i hi
  have := h i (by simp at hi; omega)
  rw [List.getElem_take, List.getElem_take]; exact this
theorem rises_drop {l : List ByteArray} (h : risesL l = true) (m : Nat) : risesL (l.drop m) = true := by
  rw [risesL_iff] at *
  intro i hi
  have := h (m + i) (by simp at hi; omega)
  rw [List.getElem_drop, List.getElem_drop]; exact this
theorem mem_take_lt {l : List ByteArray} (h : risesL l = true) {m : Nat} (hm : m < l.length) {k : ByteArray} (hk : k ∈ l.take m) : ltS k l[m] = true := by
  obtain ⟨i, hi, rfl⟩ := List.getElem_of_mem hk
  rw [List.getElem_take]
  exact rises_lt h (by simp at hi; omega) hm

/-- A node's halves: left, right, and the key between them. -/
structure Hv (n L R : NdV) (sep : ByteArray) : Prop where
  rl : rightN L = true
  rr : rightN R = true
  ol : L.ok
  or : R.ok
  nl : 0 < L.keys.length
  nr : 0 < R.keys.length
  cs : coversN n sep = true
  cl : ∀ o, coversN L o = ltS o sep
  cr : ∀ o, coversN R o = coversN n o
  v : ∀ o, n.leaf = true → valueN (if ltS o sep then L else R) o = valueN n o
  k : ∀ o, coversN n o = true → kidN (if ltS o sep then L else R) o = kidN n o
theorem half_leaf {n : NdV} (hr : rightN n = true) (hl : n.leaf = true) (h2 : 2 ≤ n.keys.length) (hk : n.keys.length ≤ 300) (h : HdV) : Hv n (n.lowL (n.keys.length / 2) h) (n.upL (n.keys.length / 2)) (n.keys.getD (n.keys.length / 2) noBytes) := by
  obtain ⟨l, L⟩ := Lf.of hr hl
  have hll := L.len
  have hkeys := L.keys
  have hvals := L.vals
  obtain ⟨m, hm⟩ : ∃ m, m = n.keys.length / 2 := ⟨_, rfl⟩
  rw [← hm]
  have hml : m < l.length := by omega
  have hsep : n.keys.getD m noBytes = l[m].key := by
    rw [getD_key (by omega)]
    have : n.keys[m]? = (l.map Pr.key)[m]? := by rw [hkeys]
    rw [List.getElem?_eq_getElem (by omega), List.getElem?_eq_getElem (by simpa using hml)] at this
    simpa using this
  rw [hsep]
  have hpw := List.pairwise_iff_getElem.1 L.srt
  have hlo : ∀ p ∈ l.take m, ltS p.key l[m].key = true := fun p hp => by
    obtain ⟨i, hi, rfl⟩ := List.getElem_of_mem hp
    rw [List.getElem_take]
    exact hpw i m _ hml (by simp at hi; omega)
  have st : Srt (l.take m) := List.Pairwise.sublist (List.take_sublist _ _) L.srt
  have sd : Srt (l.drop m) := List.Pairwise.sublist (List.drop_sublist _ _) L.srt
  have LL : Lf (n.lowL m h) (l.take m) := by
    refine ⟨?_, hl, L.kids, .inl rfl, st, fun p hp => ?_⟩
    · unfold NdV.lowL ofP; simp only [hkeys, hvals, List.map_take]
    · unfold coversN NdV.lowL
      rw [hsep]; simp only [hlo p hp]; rfl
  have LR : Lf (n.upL m) (l.drop m) := by
    refine ⟨?_, hl, L.kids, L.high, sd, fun p hp => L.cov p (List.mem_of_mem_drop hp)⟩
    unfold NdV.upL ofP; simp only [hkeys, hvals, List.map_drop]
  have gl : ∀ o, ltS o l[m].key = true → getP (l.take m) o = getP l o := fun o ho => by
    apply Option.ext
    intro v
    rw [mem_getP st, mem_getP L.srt]
    refine ⟨fun hp => List.mem_of_mem_take hp, fun hp => ?_⟩
    obtain ⟨i, hi, e⟩ := List.getElem_of_mem hp
    have him : i < m := by
      rcases Nat.lt_or_ge i m with h1 | h1
      · exact h1
      · exfalso
        have e2 : l[i].key = o := by rw [e]
        rcases Nat.eq_or_lt_of_le h1 with h3 | h3
        · subst h3; rw [e2, ltS_irrefl] at ho; cases ho
        · have := ltS_trans ho (hpw m i hml hi h3)
          rw [e2, ltS_irrefl] at this; cases this
    rw [← e]
    exact List.mem_iff_getElem.2 ⟨i, by simp; omega, by rw [List.getElem_take]⟩
  have gr : ∀ o, ltS o l[m].key = false → getP (l.drop m) o = getP l o := fun o ho => by
    apply Option.ext
    intro v
    rw [mem_getP sd, mem_getP L.srt]
    refine ⟨fun hp => List.mem_of_mem_drop hp, fun hp => ?_⟩
    obtain ⟨i, hi, e⟩ := List.getElem_of_mem hp
    have him : m ≤ i := by
      rcases Nat.lt_or_ge i m with h1 | h1
      · exfalso
        have e2 : l[i].key = o := by rw [e]
        have := hpw i m hi hml h1
        rw [e2, ho] at this; cases this
      · exact h1
    rw [← e]
    exact List.mem_iff_getElem.2 ⟨i - m, by simp; omega, by rw [List.getElem_drop]; congr 1; omega⟩
  refine ⟨LL.right, LR.right, LL.fit (by simp; omega), LR.fit (by simp; omega), ?_, ?_, ?_, fun o => ?_, fun o => rfl, fun o _ => ?_, fun o ho => ?_⟩
  · show 0 < (n.keys.take m).length
    rw [List.length_take]; omega
  · show 0 < (n.keys.drop m).length
    rw [List.length_drop]; omega
  · exact L.cov _ (List.getElem_mem hml)
  · unfold coversN NdV.lowL
    rw [hsep]; rfl
  · cases ho : ltS o l[m].key with
    | true =>
      rw [if_pos rfl, LL.value, L.value, gl o ho]
    | false =>
      rw [if_neg (by decide), LR.value, L.value, gr o ho]
  · rw [kid_leaf hl]
    split
    · exact kid_leaf hl
    · exact kid_leaf hl
theorem half_inner {n : NdV} (hr : rightN n = true) (hl : n.leaf = false) (h2 : 3 ≤ n.keys.length) (hk : n.keys.length ≤ 300) (h : HdV) : Hv n (n.lowI (n.keys.length / 2) h) (n.upI (n.keys.length / 2)) (n.keys.getD (n.keys.length / 2) noBytes) := by
  obtain ⟨hv, hkd⟩ := rightN_inner hr hl
  have hrs := rightN_rises hr
  have hall := rightN_all hr
  obtain ⟨m, hm⟩ : ∃ m, m = n.keys.length / 2 := ⟨_, rfl⟩
  rw [← hm]
  have hml : m < n.keys.length := by omega
  have hsep : n.keys.getD m noBytes = n.keys[m] := getD_key hml
  have hrl : rightN (n.lowI m h) = true := by
    refine rightN_mk (rises_take hrs m) (fun k hk => ?_) rfl ?_
    · unfold coversN NdV.lowI
      rw [hsep]; simp only [mem_take_lt hrs hml hk]; rfl
    · unfold shapeN
      rw [if_neg (by show ¬ n.leaf = true; rw [hl]; decide)]
      show (decide (n.vals.length = 0) && decide ((n.kids.take (m + 1)).length = (n.keys.take m).length + 1)) = true
      rw [hv, List.length_take, List.length_take, Bool.and_eq_true, decide_eq_true_iff, decide_eq_true_iff]
      omega
  have hrr : rightN (n.upI m) = true := by
    refine rightN_mk (rises_drop hrs (m + 1)) (fun k hk => ?_) (show (!n.bounded && !decide (n.high = noBytes)) = false from rightN_high hr) ?_
    · exact hall k (List.mem_of_mem_drop hk)
    · unfold shapeN
      rw [if_neg (by show ¬ n.leaf = true; rw [hl]; decide)]
      show (decide (n.vals.length = 0) && decide ((n.kids.drop (m + 1)).length = (n.keys.drop (m + 1)).length + 1)) = true
      rw [hv, List.length_drop, List.length_drop, Bool.and_eq_true, decide_eq_true_iff, decide_eq_true_iff]
      omega
  refine ⟨hrl, hrr, ⟨?_, ?_, ?_⟩, ⟨?_, ?_, ?_⟩, ?_, ?_, ?_, fun o => ?_, fun o => rfl, fun o hlf => ?_, fun o ho => ?_⟩
  · show (n.keys.take m).length ≤ 100000
    rw [List.length_take]; omega
  · show n.vals.length ≤ 100000
    omega
  · show (n.kids.take (m + 1)).length ≤ 100000
    rw [List.length_take]; omega
  · show (n.keys.drop (m + 1)).length ≤ 100000
    rw [List.length_drop]; omega
  · show n.vals.length ≤ 100000
    omega
  · show (n.kids.drop (m + 1)).length ≤ 100000
    rw [List.length_drop]; omega
  · show 0 < (n.keys.take m).length
    rw [List.length_take]; omega
  · show 0 < (n.keys.drop (m + 1)).length
    rw [List.length_drop]; omega
  · rw [hsep]; exact hall _ (List.getElem_mem hml)
  · unfold coversN NdV.lowI
    rfl
  · rw [hl] at hlf; cases hlf
  · have hil := idxN_le n o
    rw [hsep, kid_get hr hl ho]
    cases hlt : ltS o n.keys[m] with
    | true =>
      rw [if_pos rfl]
      have him : idxN n o ≤ m := by
        rcases Nat.lt_or_ge m (idxN n o) with h1 | h1
        · have := idx_lo h1
          rw [hlt] at this; cases this
        · exact h1
      have e : idxN (n.lowI m h) o = idxN n o := by
        refine idx_of (rises_take hrs m) (by show idxN n o ≤ (n.keys.take m).length; rw [List.length_take]; omega) (fun i hi hil => ?_) (fun i hi hil => ?_)
        · have hil : i < (n.keys.take m).length := hil
          show ltS o (n.keys.take m)[i] = false
          rw [List.getElem_take]; exact idx_lo hi
        · have hil : i < (n.keys.take m).length := hil
          show ltS o (n.keys.take m)[i] = true
          rw [List.getElem_take]; exact idx_hi hrs hi (by simp at hil; omega)
      rw [kid_get hrl hl (by unfold coversN NdV.lowI; rw [hsep]; simp only [hlt]; rfl), e]
      congr 1
      show (n.kids.take (m + 1)).getD (idxN n o) noHd = _
      rw [List.getD_eq_getElem?_getD, List.getD_eq_getElem?_getD, List.getElem?_take, if_pos (by omega)]
    | false =>
      rw [if_neg (by decide)]
      have him : m < idxN n o := by
        rcases Nat.lt_or_ge m (idxN n o) with h1 | h1
        · exact h1
        · have := idx_hi hrs h1 hml
          rw [hlt] at this; cases this
      have e : idxN (n.upI m) o = idxN n o - (m + 1) := by
        refine idx_of (rises_drop hrs (m + 1)) (by show idxN n o - (m + 1) ≤ (n.keys.drop (m + 1)).length; rw [List.length_drop]; omega) (fun i hi hil => ?_) (fun i hi hil => ?_)
        · have hil : i < (n.keys.drop (m + 1)).length := hil
          show ltS o (n.keys.drop (m + 1))[i] = false
          rw [List.getElem_drop]; exact idx_lo (by omega)
        · have hil : i < (n.keys.drop (m + 1)).length := hil
          show ltS o (n.keys.drop (m + 1))[i] = true
          rw [List.getElem_drop]; exact idx_hi hrs (by omega) (by simp at hil; omega)
      rw [kid_get hrr hl (show coversN n o = true from ho), e]
      congr 1
      show (n.kids.drop (m + 1)).getD (idxN n o - (m + 1)) noHd = _
      rw [List.getD_eq_getElem?_getD, List.getD_eq_getElem?_getD, List.getElem?_drop]
      congr 2; omega
theorem half_of {n : NdV} (hr : rightN n = true) (hs : noSplit n = false) (hk : n.keys.length ≤ 300) (h : HdV) : Hv n (splitN n h).1 (splitN n h).2.1 (splitN n h).2.2 := by
  have h2 := hs
  unfold noSplit at h2
  rw [hr] at h2
  have h2 : ¬ n.keys.length < if n.leaf then 2 else 3 := by simpa using h2
  unfold splitN
  rw [if_neg (by rw [hs]; decide)]
  cases hl : n.leaf with
  | true =>
    rw [hl] at h2
    rw [if_pos rfl]
    exact half_leaf hr hl (by simpa using h2) hk h
  | false =>
    rw [hl] at h2
    rw [if_neg (by decide)]
    exact half_inner hr hl (by simpa using h2) hk h
theorem split_no {n : NdV} (hs : noSplit n = true) (h : HdV) : splitN n h = (n, noNd, noBytes) := by unfold splitN; rw [if_pos hs]
end Go.Proofs.Ytjcpcgneghanfaa.LF
