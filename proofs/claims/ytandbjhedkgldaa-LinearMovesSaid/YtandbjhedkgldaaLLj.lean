/- linear.Some: what its loop gathers. -/
import Derived.Test.YtandbjhedkgldaaLLi
namespace Go.Proofs.Ytandbjhedkgldaa.LF
open Go.RowKit H
set_option linter.unusedVariables false

structure St where
  all : List One
  ids : List Int
  done : Nat
def noOne : One := ⟨noOp, noAns, false, 0⟩
def endO (x : One) (a : Ans) : One := ⟨x.op, a, true, x.ahead⟩
def stepO (s : St) (e : Ev) : St :=
  if e.kind = 1 then ⟨s.all ++ [⟨e.op, noAns, false, s.done⟩], s.ids ++ [e.id], s.done⟩
  else if e.kind = 3 then ⟨s.all.set (s.ids.idxOf e.id) (endO (s.all.getD (s.ids.idxOf e.id) noOne) e.ans), s.ids, s.done ||| 2 ^ (s.ids.idxOf e.id)⟩
  else s
def foldO (l : List Ev) : St := l.foldl stepO ⟨[], [], 0⟩
theorem foldO_snoc (l : List Ev) (e : Ev) : foldO (l ++ [e]) = stepO (foldO l) e := by unfold foldO; rw [List.foldl_append]; rfl
theorem foldO_take {l : List Ev} {j : Nat} (h : j < l.length) : foldO (l.take (j + 1)) = stepO (foldO (l.take j)) l[j] := by
  rw [List.take_succ_eq_append_getElem h, foldO_snoc]
def idsS (l : List Ev) : List Int := (l.filter fun e => e.kind == 1).map (·.id)
theorem foldl_ids (l : List Ev) : ∀ s : St, s.ids.length = s.all.length → (l.foldl stepO s).ids = s.ids ++ idsS l ∧ (l.foldl stepO s).ids.length = (l.foldl stepO s).all.length ∧ s.all.length ≤ (l.foldl stepO s).all.length := by
  induction l with
  | nil => intro s h; exact ⟨by simp [idsS], h, Nat.le_refl _⟩
  | cons e l ih =>
    intro s h
    have h1 : (stepO s e).ids.length = (stepO s e).all.length ∧ (stepO s e).ids = s.ids ++ (if e.kind == 1 then [e.id] else []) ∧ s.all.length ≤ (stepO s e).all.length := by
      unfold stepO
      by_cases h1 : e.kind = 1
      · simp [h1, h]
      · by_cases h3 : e.kind = 3
        · simp [h3, h]
        · simp [h1, h3, h]
    obtain ⟨a1, a2, a3⟩ := ih (stepO s e) h1.1
    refine ⟨?_, a2, Nat.le_trans h1.2.2 a3⟩
    rw [List.foldl_cons, a1, h1.2.1, List.append_assoc]
    congr 1
    unfold idsS
    rw [List.filter_cons]
    by_cases h1 : e.kind = 1 <;> simp [h1]
theorem foldO_ids (l : List Ev) : (foldO l).ids = idsS l := by have := (foldl_ids l ⟨[], [], 0⟩ rfl).1; simpa [foldO] using this
theorem foldO_len (l : List Ev) : (foldO l).ids.length = (foldO l).all.length := (foldl_ids l ⟨[], [], 0⟩ rfl).2.1
theorem foldO_mono {l : List Ev} {j : Nat} : (foldO (l.take j)).all.length ≤ (foldO l).all.length := by
  have := (foldl_ids (l.drop j) (foldO (l.take j)) (foldO_len _)).2.2
  rw [show (l.drop j).foldl stepO (foldO (l.take j)) = foldO l by unfold foldO; rw [← List.foldl_append, List.take_append_drop]] at this
  exact this
theorem mem_ids {l : List Ev} {id : Int} : id ∈ idsS l ↔ countS l 1 id ≠ 0 := by
  unfold idsS countS
  rw [List.mem_map, Nat.ne_zero_iff_zero_lt, List.countP_pos_iff]
  constructor
  · rintro ⟨e, he, rfl⟩
    rw [List.mem_filter] at he
    exact ⟨e, he.1, by simpa [isEv] using he.2⟩
  · rintro ⟨e, he, h⟩
    rw [isEv_iff] at h
    exact ⟨e, by rw [List.mem_filter]; exact ⟨he, by simp [h.1]⟩, h.2⟩
theorem begin_new {l : List Ev} (R : Right l) {j : Nat} (hj : j < l.length) (hk : l[j].kind = 1) : l[j].id ∉ (foldO (l.take j)).ids := by
  rw [foldO_ids, mem_ids]
  have he : isEv 1 l[j].id l[j] = true := by rw [isEv_iff]; exact ⟨hk, rfl⟩
  simp [fits_begin (R j hj) he]
theorem end_in {l : List Ev} (R : Right l) {j : Nat} (hj : j < l.length) (hk : l[j].kind = 3) : l[j].id ∈ (foldO (l.take j)).ids := by
  have he : isEv 3 l[j].id l[j] = true := by rw [isEv_iff]; exact ⟨hk, rfl⟩
  obtain ⟨p, hp, hpj, h2⟩ := R.mark_ahead hj he
  obtain ⟨b, hb, hbp, h1⟩ := R.begin_ahead hp h2
  rw [foldO_ids, mem_ids]
  unfold countS
  rw [Nat.ne_zero_iff_zero_lt, List.countP_pos_iff]
  exact ⟨l[b], List.mem_iff_getElem.2 ⟨b, by rw [List.length_take]; omega, by rw [List.getElem_take]⟩, h1⟩
/-- Where the numbers of what is begun are. -/
def NumIs (al : List (Int × Value)) (ids : List Int) : Prop := ∀ id ∈ ids, alGet al id = some (.int .i64 (ids.idxOf id : Nat))
theorem NumIs.put {al : List (Int × Value)} {ids : List Int} (h : NumIs al ids) {id : Int} (hn : id ∉ ids) : NumIs (alPut al id (.int .i64 (ids.length : Nat))) (ids ++ [id]) := fun x hx => by
  rw [alGet_put]
  by_cases e : x = id
  · subst e
    rw [if_pos rfl, List.idxOf_append, if_neg hn]
    simp
  · rw [if_neg e]
    have hx' : x ∈ ids := by
      rcases List.mem_append.1 hx with h1 | h1
      · exact h1
      · exact absurd (List.mem_singleton.1 h1) e
    rw [h x hx', List.idxOf_append, if_pos hx']
structure Bits (s : St) : Prop where
  done : s.done < 128
  ah : ∀ x ∈ s.all, x.ahead < 128
theorem Bits.step {s : St} (h : Bits s) (hl : s.all.length ≤ 7) (hi : s.ids.length = s.all.length) {e : Ev} (he : e.kind = 3 → e.id ∈ s.ids) : Bits (stepO s e) := by
  unfold stepO
  by_cases h1 : e.kind = 1
  · rw [if_pos h1]
    refine ⟨h.done, fun x hx => ?_⟩
    rcases List.mem_append.1 hx with h2 | h2
    · exact h.ah x h2
    · rw [List.mem_singleton.1 h2]; exact h.done
  · rw [if_neg h1]
    by_cases h3 : e.kind = 3
    · rw [if_pos h3]
      have hlt := List.idxOf_lt_length_of_mem (he h3)
      have hia : s.ids.idxOf e.id < s.all.length := by omega
      refine ⟨or_lt _ h.done _ (by omega), fun x hx => ?_⟩
      rcases List.mem_or_eq_of_mem_set hx with h2 | h2
      · exact h.ah x h2
      · rw [h2, List.getD_eq_getElem?_getD, List.getElem?_eq_getElem hia]
        exact h.ah (s.all[s.ids.idxOf e.id]'hia) (List.getElem_mem hia)
    · rw [if_neg h3]; exact h
def someS (l : List Pr) (evs : List Ev) : Bool :=
  if ((checkS (fun _ => noKn) evs 0).2 != 0) = true then false else if 7 < (foldO evs).all.length then false else tryS (foldO evs).all ((foldO evs).all.length + 1) 0 l
end Go.Proofs.Ytandbjhedkgldaa.LF
