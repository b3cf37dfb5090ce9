/- Plain: what linear.Some's loop has gathered of a right row. -/
import Derived.Test.YtandbjhedkgldaaLLo
namespace Go.Proofs.Ytandbjhedkgldaa.LF
open Go.RowKit H
set_option linter.unusedVariables false

theorem hasE_iff {l : List Ev} {k id : Int} : hasE l k id = true ↔ ∃ e ∈ l, isEv k id e = true := by
  unfold hasE; rw [List.find?_isSome]
theorem hasE_snoc (w : List Ev) (e : Ev) (k id : Int) : hasE (w ++ [e]) k id = (hasE w k id || isEv k id e) := by
  rw [Bool.eq_iff_iff, Bool.or_eq_true, hasE_iff, hasE_iff]
  constructor
  · rintro ⟨x, hx, h⟩
    rcases List.mem_append.1 hx with h1 | h1
    · exact .inl ⟨x, h1, h⟩
    · rw [List.mem_singleton.1 h1] at h; exact .inr h
  · rintro (⟨x, hx, h⟩ | h)
    · exact ⟨x, List.mem_append_left _ hx, h⟩
    · exact ⟨e, by simp, h⟩
theorem hasE_count {l : List Ev} {k id : Int} : hasE l k id = true ↔ countS l k id ≠ 0 := by
  rw [hasE_iff, countS, Nat.ne_zero_iff_zero_lt, List.countP_pos_iff]
theorem mem_idsE {l : List Ev} {id : Int} : id ∈ idsS l ↔ hasE l 1 id = true := by rw [mem_ids, hasE_count]
theorem ahead_snoc (w : List Ev) (e : Ev) (a b : Int) : aheadS (w ++ [e]) a b = (aheadS w a b || (hasE w 3 a && isEv 1 b e)) := by
  rw [Bool.eq_iff_iff, Bool.or_eq_true, Bool.and_eq_true, ahead_iff, ahead_iff, hasE_iff]
  constructor
  · rintro ⟨i, hi, h1, x, hx, h2⟩
    have hlt : i < w.length := by
      rcases Nat.lt_or_ge i w.length with h | h
      · exact h
      · rw [List.drop_of_length_le (by rw [List.length_append] at hi ⊢; simp at hi ⊢; omega)] at hx; cases hx
    rw [List.getElem_append_left hlt] at h1
    rw [List.drop_append_of_le_length (by omega)] at hx
    rcases List.mem_append.1 hx with h3 | h3
    · exact .inl ⟨i, hlt, h1, x, h3, h2⟩
    · rw [List.mem_singleton.1 h3] at h2; exact .inr ⟨⟨_, List.getElem_mem hlt, h1⟩, h2⟩
  · rintro (⟨i, hi, h1, x, hx, h2⟩ | ⟨⟨x, hx, h1⟩, h2⟩)
    · exact ⟨i, by rw [List.length_append]; omega, by rw [List.getElem_append_left hi]; exact h1, x, by rw [List.drop_append_of_le_length (by omega)]; exact List.mem_append_left _ hx, h2⟩
    · obtain ⟨i, hi, e1⟩ := List.getElem_of_mem hx
      exact ⟨i, by rw [List.length_append]; omega, by rw [List.getElem_append_left hi, e1]; exact h1, e, by rw [List.drop_append_of_le_length (by omega)]; simp, h2⟩
theorem ahead_has {w : List Ev} {a b : Int} (h : aheadS w a b = true) : hasE w 3 a = true ∧ hasE w 1 b = true := by
  obtain ⟨i, hi, h1, x, hx, h2⟩ := ahead_iff.1 h
  exact ⟨hasE_iff.2 ⟨_, List.getElem_mem hi, h1⟩, hasE_iff.2 ⟨x, List.mem_of_mem_drop hx, h2⟩⟩
theorem opOf_snoc {w : List Ev} {e : Ev} {id : Int} (h : hasE w 1 id = true) : opOf (w ++ [e]) id = opOf w id := by
  rw [opOf, findE_snoc, if_pos h]; rfl
theorem answer_stay {w : List Ev} {e : Ev} {id : Int} (h : hasE w 2 id = true) : answerS (w ++ [e]) id = answerS w id := by
  rw [answer_snoc, if_neg (hasE_count.1 h)]

structure InvO (w : List Ev) (s : St) : Prop where
  ids : s.ids = idsS w
  nd : s.ids.Nodup
  len : s.ids.length = s.all.length
  one : ∀ (p : Nat) (x : One) (id : Int), s.all[p]? = some x → s.ids[p]? = some id → x.op = opOf w id ∧ x.ended = hasE w 3 id ∧ (x.ended = true → x.a = answerS w id) ∧
    ∀ q, x.ahead.testBit q = true ↔ ∃ id', s.ids[q]? = some id' ∧ aheadS w id' id = true
  done : ∀ q, s.done.testBit q = true ↔ ∃ id', s.ids[q]? = some id' ∧ hasE w 3 id' = true
/-- In a right row what is marked is begun, what is ended is marked. -/
structure Steps (w : List Ev) : Prop where
  b : ∀ id, hasE w 2 id = true → hasE w 1 id = true
  m : ∀ id, hasE w 3 id = true → hasE w 2 id = true
theorem snoc_get {α : Type} {l : List α} {a x : α} {q : Nat} (h : (l ++ [a])[q]? = some x) : l[q]? = some x ∨ (q = l.length ∧ x = a) := by
  rcases Nat.lt_or_ge q l.length with hq | hq
  · rw [List.getElem?_append_left hq] at h; exact .inl h
  · rw [List.getElem?_append_right hq] at h
    have hql : q - l.length = 0 := by
      rcases Nat.eq_zero_or_pos (q - l.length) with h0 | h0
      · exact h0
      · rw [List.getElem?_eq_none (by simp; omega)] at h; cases h
    rw [hql] at h
    exact .inr ⟨by omega, by simpa using h.symm⟩
theorem get_snoc {α : Type} {l : List α} {a x : α} {q : Nat} (h : l[q]? = some x) : (l ++ [a])[q]? = some x := by
  have := (List.getElem?_eq_some_iff.1 h).1
  rw [List.getElem?_append_left this]; exact h
theorem idsS_snoc (w : List Ev) (e : Ev) : idsS (w ++ [e]) = idsS w ++ if e.kind == 1 then [e.id] else [] := by
  unfold idsS
  rw [List.filter_append, List.map_append]
  congr 1
  by_cases h : e.kind = 1 <;> simp [h]
theorem get_mem {w : List Ev} {s : St} (h : InvO w s) {p : Nat} {id : Int} (hp : s.ids[p]? = some id) : hasE w 1 id = true := by
  rw [← mem_idsE, ← h.ids]; exact List.mem_of_getElem? hp

theorem InvO.step {w : List Ev} {s : St} (h : InvO w s) (st : Steps w) {e : Ev} (hf : fitsS w e = true) : InvO (w ++ [e]) (stepO s e) := by
  by_cases h1 : e.kind = 1
  · have he : isEv 1 e.id e = true := (isEv_iff _ _ _).2 ⟨h1, rfl⟩
    have hnew : hasE w 1 e.id = false := hasE_countS (fits_begin hf he)
    have hno3 : hasE w 3 e.id = false := by
      cases hq : hasE w 3 e.id with
      | false => rfl
      | true => rw [st.b _ (st.m _ hq)] at hnew; cases hnew
    have h3 : ∀ id, isEv 3 id e = false := fun id => isEv_kind (by omega)
    rw [stepO, if_pos h1]
    have hin : ∀ {q : Nat} {id : Int}, s.ids[q]? = some id → isEv 1 id e = false := fun hq => by
      refine isEv_id fun e2 => ?_
      have := get_mem h hq
      rw [← e2, hnew] at this; cases this
    refine ⟨?_, ?_, ?_, ?_, ?_⟩
    · rw [idsS_snoc, h.ids]; simp [h1]
    · refine List.nodup_append.2 ⟨h.nd, by simp, fun a ha b hb e2 => ?_⟩
      rw [List.mem_singleton.1 hb] at e2
      rw [e2, h.ids, mem_idsE, hnew] at ha; cases ha
    · simp [h.len]
    · intro p x id hp hi
      rcases snoc_get hp with hp | ⟨e1, rfl⟩
      · have hi' : s.ids[p]? = some id := by
          rcases snoc_get hi with hi | ⟨e2, _⟩
          · exact hi
          · have := (List.getElem?_eq_some_iff.1 hp).1
            rw [h.len] at e2; omega
        obtain ⟨a1, a2, a3, a4⟩ := h.one p x id hp hi'
        refine ⟨by rw [opOf_snoc (get_mem h hi'), a1], by rw [hasE_snoc, h3, Bool.or_false, a2], fun hx => ?_, fun q => ?_⟩
        · rw [a3 hx, answer_stay (st.m _ (by rw [← a2]; exact hx))]
        · rw [a4 q]
          constructor
          · rintro ⟨id', g1, g2⟩; exact ⟨id', get_snoc g1, by rw [ahead_snoc, g2]; rfl⟩
          · rintro ⟨id', g1, g2⟩
            rw [ahead_snoc, hin hi', Bool.and_false, Bool.or_false] at g2
            rcases snoc_get g1 with g1 | ⟨_, rfl⟩
            · exact ⟨id', g1, g2⟩
            · rw [(ahead_has g2).1] at hno3; cases hno3
      · have hid : id = e.id := by
          rcases snoc_get hi with hi | ⟨_, e2⟩
          · have := (List.getElem?_eq_some_iff.1 hi).1
            rw [h.len] at this; omega
          · exact e2
        subst hid
        refine ⟨by rw [opOf, findE_snoc, if_neg (by rw [hnew]; decide), if_pos he], by rw [hasE_snoc, h3, hno3]; rfl, fun hx => Bool.noConfusion hx, fun q => ?_⟩
        rw [h.done q]
        constructor
        · rintro ⟨id', g1, g2⟩; exact ⟨id', get_snoc g1, by rw [ahead_snoc, g2, he]; simp⟩
        · rintro ⟨id', g1, g2⟩
          have g3 : hasE w 3 id' = true := by
            rw [ahead_snoc, he, Bool.and_true, Bool.or_eq_true] at g2
            rcases g2 with g2 | g2
            · exact (ahead_has g2).1
            · exact g2
          rcases snoc_get g1 with g1 | ⟨_, rfl⟩
          · exact ⟨id', g1, g3⟩
          · rw [g3] at hno3; cases hno3
    · intro q
      rw [h.done q]
      constructor
      · rintro ⟨id', g1, g2⟩; exact ⟨id', get_snoc g1, by rw [hasE_snoc, g2]; rfl⟩
      · rintro ⟨id', g1, g2⟩
        rw [hasE_snoc, h3, Bool.or_false] at g2
        rcases snoc_get g1 with g1 | ⟨_, rfl⟩
        · exact ⟨id', g1, g2⟩
        · rw [g2] at hno3; cases hno3
  have hn1 : ∀ id, isEv 1 id e = false := fun id => isEv_kind h1
  by_cases h3 : e.kind = 3
  · have he : isEv 3 e.id e = true := (isEv_iff _ _ _).2 ⟨h3, rfl⟩
    have hm2 : hasE w 2 e.id = true := hasE_count.2 (by rw [fits_end hf he]; decide)
    have hb := st.b _ hm2
    have hin : e.id ∈ s.ids := by rw [h.ids, mem_idsE]; exact hb
    have hlt := List.idxOf_lt_length_of_mem hin
    have hget : s.ids[s.ids.idxOf e.id]? = some e.id := by rw [List.getElem?_eq_getElem hlt, List.getElem_idxOf]
    have hans : e.ans = answerS w e.id := by
      have hf2 := hf
      unfold fitsS at hf2
      split at hf2
      · cases hf2
      · simp [h3] at hf2
        exact hf2.2
    have huniq : ∀ {q : Nat}, s.ids[q]? = some e.id → q = s.ids.idxOf e.id := fun hq => by
      obtain ⟨g1, g2⟩ := List.getElem?_eq_some_iff.1 hq
      exact (List.getElem_inj h.nd).1 (by rw [g2, List.getElem_idxOf hlt])
    have h3e : ∀ id, isEv 3 id e = decide (id = e.id) := fun id => by
      by_cases e2 : id = e.id
      · rw [e2, he]; simp
      · rw [isEv_id (fun e3 => e2 e3.symm)]; simp [e2]
    rw [stepO, if_neg h1, if_pos h3]
    generalize s.ids.idxOf e.id = i at *
    have hia : i < s.all.length := by rw [← h.len]; exact hlt
    have hgd : s.all.getD i noOne = s.all[i] := by rw [List.getD_eq_getElem?_getD, List.getElem?_eq_getElem hia]; rfl
    rw [hgd]
    have ahs : ∀ {id : Int} (x : One), (∀ q, x.ahead.testBit q = true ↔ ∃ id', s.ids[q]? = some id' ∧ aheadS w id' id = true) → ∀ q, x.ahead.testBit q = true ↔ ∃ id', s.ids[q]? = some id' ∧ aheadS (w ++ [e]) id' id = true := fun x h4 q => by
      rw [h4 q]
      constructor
      · rintro ⟨id', g1, g2⟩; exact ⟨id', g1, by rw [ahead_snoc, g2]; rfl⟩
      · rintro ⟨id', g1, g2⟩
        rw [ahead_snoc, hn1, Bool.and_false, Bool.or_false] at g2
        exact ⟨id', g1, g2⟩
    refine ⟨by rw [idsS_snoc, h.ids]; simp [h1], h.nd, by simp [h.len], fun p x id hp hi => ?_, fun q => ?_⟩
    · by_cases e2 : i = p
      · subst e2
        rw [hget] at hi
        obtain rfl : e.id = id := by simpa using hi
        rw [List.getElem?_set_self hia] at hp
        obtain rfl := Option.some.inj hp
        obtain ⟨a1, a2, a3, a4⟩ := h.one i s.all[i] e.id (List.getElem?_eq_getElem hia) hget
        exact ⟨by rw [opOf_snoc hb]; exact a1, by rw [hasE_snoc, he, Bool.or_true]; rfl, fun _ => by rw [answer_stay hm2]; exact hans, ahs s.all[i] a4⟩
      · rw [List.getElem?_set_ne e2] at hp
        obtain ⟨a1, a2, a3, a4⟩ := h.one p x id hp hi
        have hne : id ≠ e.id := fun e3 => e2 (huniq (by rw [← e3]; exact hi)).symm
        refine ⟨by rw [opOf_snoc (get_mem h hi), a1], by rw [hasE_snoc, h3e, decide_eq_false hne, Bool.or_false, a2], fun hx => ?_, ahs x a4⟩
        rw [a3 hx, answer_stay (st.m _ (by rw [← a2]; exact hx))]
    · rw [bit_or_at, Bool.or_eq_true, h.done q]
      constructor
      · rintro (⟨id', g1, g2⟩ | g)
        · exact ⟨id', g1, by rw [hasE_snoc, g2]; rfl⟩
        · have g : i = q := of_decide_eq_true g
          subst g
          exact ⟨e.id, hget, by rw [hasE_snoc, he, Bool.or_true]⟩
      · rintro ⟨id', g1, g2⟩
        rw [hasE_snoc, h3e, Bool.or_eq_true] at g2
        rcases g2 with g2 | g2
        · exact .inl ⟨id', g1, g2⟩
        · have g2 : id' = e.id := of_decide_eq_true g2
          subst g2
          exact .inr (decide_eq_true (huniq g1).symm)
  have hn3 : ∀ id, isEv 3 id e = false := fun id => isEv_kind h3
  rw [stepO, if_neg h1, if_neg h3]
  refine ⟨by rw [idsS_snoc, h.ids]; simp [h1], h.nd, h.len, fun p x id hp hi => ?_, fun q => ?_⟩
  · obtain ⟨a1, a2, a3, a4⟩ := h.one p x id hp hi
    refine ⟨by rw [opOf_snoc (get_mem h hi), a1], by rw [hasE_snoc, hn3, Bool.or_false, a2], fun hx => ?_, fun q => ?_⟩
    · rw [a3 hx, answer_stay (st.m _ (by rw [← a2]; exact hx))]
    · rw [a4 q]
      constructor
      · rintro ⟨id', g1, g2⟩; exact ⟨id', g1, by rw [ahead_snoc, g2]; rfl⟩
      · rintro ⟨id', g1, g2⟩
        rw [ahead_snoc, hn1, Bool.and_false, Bool.or_false] at g2
        exact ⟨id', g1, g2⟩
  · rw [h.done q]
    constructor
    · rintro ⟨id', g1, g2⟩; exact ⟨id', g1, by rw [hasE_snoc, g2]; rfl⟩
    · rintro ⟨id', g1, g2⟩
      rw [hasE_snoc, hn3, Bool.or_false] at g2
      exact ⟨id', g1, g2⟩
end Go.Proofs.Ytandbjhedkgldaa.LF
