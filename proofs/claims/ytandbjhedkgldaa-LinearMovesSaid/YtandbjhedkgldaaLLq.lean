/- Plain: a right witness is a row that linear.Some finds. -/
import Derived.Test.YtandbjhedkgldaaLLp
namespace Go.Proofs.Ytandbjhedkgldaa.LF
open Go.RowKit H
set_option linter.unusedVariables false

theorem hasE_at {l : List Ev} {j : Nat} (hj : j < l.length) {k id : Int} (h : isEv k id l[j] = true) {n : Nat} (hn : j < n) : hasE (l.take n) k id = true :=
  hasE_iff.2 ⟨l[j], List.mem_iff_getElem.2 ⟨j, by rw [List.length_take]; omega, by rw [List.getElem_take]⟩, h⟩
theorem hasE_pos {l : List Ev} {k id : Int} {n : Nat} (h : hasE (l.take n) k id = true) : ∃ (j : Nat) (hj : j < l.length), j < n ∧ isEv k id l[j] = true := by
  obtain ⟨e, he, h1⟩ := hasE_iff.1 h
  obtain ⟨j, hj, rfl⟩ := List.getElem_of_mem he
  rw [List.length_take] at hj
  exact ⟨j, by omega, by omega, by rw [List.getElem_take] at h1; exact h1⟩
theorem steps_of {l : List Ev} (R : Right l) (n : Nat) : Steps (l.take n) where
  b id h := by
    obtain ⟨j, hj, hn, h1⟩ := hasE_pos h
    obtain ⟨b, hb, hbj, h2⟩ := R.begin_ahead hj h1
    exact hasE_at hb h2 (by omega)
  m id h := by
    obtain ⟨j, hj, hn, h1⟩ := hasE_pos h
    obtain ⟨b, hb, hbj, h2⟩ := R.mark_ahead hj h1
    exact hasE_at hb h2 (by omega)
theorem invO_take {l : List Ev} (R : Right l) : ∀ j, j ≤ l.length → InvO (l.take j) (foldO (l.take j))
  | 0, _ => ⟨rfl, .nil, rfl, fun p x id h => by simp [foldO] at h, fun q => by simp [foldO]⟩
  | j + 1, hj => by
    have hlt : j < l.length := by omega
    rw [foldO_take hlt, List.take_succ_eq_append_getElem hlt]
    exact (invO_take R j (by omega)).step (steps_of R j) (R j hlt)
theorem invO_all {l : List Ev} (R : Right l) : InvO l (foldO l) := by
  have := invO_take R l.length (Nat.le_refl _)
  rwa [List.take_length] at this
theorem steps_all {l : List Ev} (R : Right l) : Steps l := by
  have := steps_of R l.length
  rwa [List.take_length] at this
theorem hasE_all {l : List Ev} {k id : Int} (h : hasE l k id = true) : ∃ (j : Nat) (hj : j < l.length), isEv k id l[j] = true := by
  obtain ⟨e, he, h1⟩ := hasE_iff.1 h
  obtain ⟨j, hj, rfl⟩ := List.getElem_of_mem he
  exact ⟨j, hj, h1⟩
theorem mark_new {l : List Ev} (R : Right l) {k : Nat} (hk : k < l.length) {id : Int} (h : isEv 2 id l[k] = true) : hasE (l.take k) 2 id = false := by
  cases hq : hasE (l.take k) 2 id with
  | false => rfl
  | true =>
    obtain ⟨j, hj, hjk, h1⟩ := hasE_pos hq
    have := R.mark_one hj hk h1 h
    omega
theorem mark_answer {l : List Ev} (R : Right l) {k : Nat} (hk : k < l.length) {id : Int} (h : isEv 2 id l[k] = true) : answerS l id = l[k].ans := by
  refine answer_take hk (fun e he => ?_) h
  cases hq : isEv 2 id e with
  | false => rfl
  | true => have := hasE_iff.2 ⟨e, he, hq⟩; rw [mark_new R hk h] at this; cases this
/-- Whoever is ahead of a marked one is marked before. -/
theorem ahead_marked {l : List Ev} (R : Right l) {k : Nat} (hk : k < l.length) {id a : Int} (h : isEv 2 id l[k] = true) (ha : aheadS l a id = true) : hasE (l.take k) 2 a = true := by
  obtain ⟨p, hp, h1⟩ := hasE_all ((steps_all R).m a (ahead_has ha).1)
  rcases Nat.lt_trichotomy p k with h2 | h2 | h2
  · exact hasE_at hp h1 h2
  · subst h2
    have e1 := ((isEv_iff _ _ _).1 h1).2
    have e2 := ((isEv_iff _ _ _).1 h).2
    obtain rfl : a = id := by rw [← e1, ← e2]
    obtain ⟨i, hi, g1, x, hx, g2⟩ := ahead_iff.1 ha
    obtain ⟨j, hj, rfl⟩ := List.getElem_of_mem hx
    rw [List.length_drop] at hj
    rw [List.getElem_drop] at g2
    have hb : i + 1 + j < l.length := by omega
    obtain ⟨q, hq, hqi, g3⟩ := R.mark_ahead hi g1
    obtain ⟨b, hbl, hbq, g4⟩ := R.begin_ahead hq g3
    have h0 := hasE_countS (fits_begin (R (i + 1 + j) hb) g2)
    rw [hasE_at hbl g4 (by omega)] at h0; cases h0
  · rw [R.not_ahead hp hk h2 h1 h] at ha; cases ha

/-- A mark that counts: not of one that did nothing and hasn't ended. -/
def good (l : List Ev) (id : Int) : Bool := hasE l 3 id || !idleS (answerS l id)
def takenAt (l : List Ev) : Nat → Nat
  | 0 => 0
  | k + 1 => match l[k]? with
    | some e => if e.kind = 2 ∧ good l e.id = true then takenAt l k ||| 2 ^ ((idsS l).idxOf e.id) else takenAt l k
    | none => takenAt l k
theorem takenAt_succ {l : List Ev} {k : Nat} (hk : k < l.length) : takenAt l (k + 1) = if l[k].kind = 2 ∧ good l l[k].id = true then takenAt l k ||| 2 ^ ((idsS l).idxOf l[k].id) else takenAt l k := by
  rw [takenAt, List.getElem?_eq_getElem hk]
theorem taken_bit {l : List Ev} (R : Right l) : ∀ k, k ≤ l.length → ∀ q, (takenAt l k).testBit q = true ↔ ∃ id, (idsS l)[q]? = some id ∧ hasE (l.take k) 2 id = true ∧ good l id = true
  | 0, _, q => by
    constructor
    · intro h; simp [takenAt] at h
    · rintro ⟨id, _, h, _⟩; cases h
  | k + 1, hk, q => by
    have hlt : k < l.length := by omega
    have ih := taken_bit R k (by omega) q
    have hnd : (idsS l).Nodup := by rw [← (invO_all R).ids]; exact (invO_all R).nd
    rw [takenAt_succ hlt, List.take_succ_eq_append_getElem hlt]
    by_cases h2 : l[k].kind = 2
    · have he : isEv 2 l[k].id l[k] = true := (isEv_iff _ _ _).2 ⟨h2, rfl⟩
      have hin : l[k].id ∈ idsS l := mem_idsE.2 ((steps_all R).b _ (hasE_iff.2 ⟨_, List.getElem_mem hlt, he⟩))
      have hix := List.idxOf_lt_length_of_mem hin
      by_cases hg : good l l[k].id = true
      · rw [if_pos ⟨h2, hg⟩, bit_or_at, Bool.or_eq_true, ih]
        constructor
        · rintro (⟨id, g1, g2, g3⟩ | g)
          · exact ⟨id, g1, by rw [hasE_snoc, g2]; rfl, g3⟩
          · have g : (idsS l).idxOf l[k].id = q := of_decide_eq_true g
            exact ⟨l[k].id, by rw [← g, List.getElem?_eq_getElem hix, List.getElem_idxOf], by rw [hasE_snoc, he, Bool.or_true], hg⟩
        · rintro ⟨id, g1, g2, g3⟩
          rw [hasE_snoc, Bool.or_eq_true] at g2
          rcases g2 with g2 | g2
          · exact .inl ⟨id, g1, g2, g3⟩
          · have e : l[k].id = id := ((isEv_iff _ _ _).1 g2).2
            obtain ⟨g4, g5⟩ := List.getElem?_eq_some_iff.1 g1
            have hq : (idsS l).idxOf l[k].id = q := (List.getElem_inj (h₀ := hix) (h₁ := g4) hnd).1 (by rw [g5, List.getElem_idxOf hix, e])
            exact .inr (decide_eq_true hq)
      · rw [if_neg (fun h => hg h.2), ih]
        constructor
        · rintro ⟨id, g1, g2, g3⟩; exact ⟨id, g1, by rw [hasE_snoc, g2]; rfl, g3⟩
        · rintro ⟨id, g1, g2, g3⟩
          rw [hasE_snoc, Bool.or_eq_true] at g2
          rcases g2 with g2 | g2
          · exact ⟨id, g1, g2, g3⟩
          · rw [((isEv_iff _ _ _).1 g2).2] at hg; exact absurd g3 hg
    · rw [if_neg (fun h => h2 h.1), ih]
      constructor
      · rintro ⟨id, g1, g2, g3⟩; exact ⟨id, g1, by rw [hasE_snoc, g2]; rfl, g3⟩
      · rintro ⟨id, g1, g2, g3⟩
        rw [hasE_snoc, isEv_kind h2, Bool.or_false] at g2
        exact ⟨id, g1, g2, g3⟩

theorem runT_neg (ops : Int → OpV) (l : List Ev) (m : List Pr) (hl : (runT ops l m l.length).2 < 0) {k : Nat} (hk : k ≤ l.length) : (runT ops l m k).2 < 0 := by
  rcases Int.lt_or_le (runT ops l m k).2 0 with h | h
  · exact h
  · rw [runT_stay ops l m h l.length hk] at hl; omega
/-- What is right goes on from each place of the witness. -/
theorem can_at {l : List Ev} (R : Right l) (m : List Pr) (hm : (runT (opOf l) l m l.length).2 < 0) : ∀ (d k : Nat), k ≤ l.length → d = l.length - k → Can (foldO l).all (takenAt l k) (runT (opOf l) l m k).1 := by
  have V := invO_all R
  have ST := steps_all R
  intro d
  induction d with
  | zero =>
    intro k hk hd
    obtain rfl : k = l.length := by omega
    refine .done _ _ fun i hi he => ?_
    have hi2 : i < (foldO l).ids.length := by rw [V.len]; exact hi
    obtain ⟨_, a2, _, _⟩ := V.one i _ _ (List.getElem?_eq_getElem hi) (List.getElem?_eq_getElem hi2)
    rw [a2] at he
    refine (taken_bit R _ (Nat.le_refl _) i).2 ⟨(foldO l).ids[i], by rw [← V.ids, List.getElem?_eq_getElem hi2], by rw [List.take_length]; exact ST.m _ he, by rw [good, he]; rfl⟩
  | succ d ih =>
    intro k hk hd
    have hlt : k < l.length := by omega
    have k1 := ih (k + 1) hlt (by omega)
    have hn := runT_neg (opOf l) l m hm (k := k + 1) hlt
    have hn0 := runT_neg (opOf l) l m hm (k := k) (by omega)
    rw [runT_succ (opOf l) m hlt] at k1 hn
    rw [takenAt_succ hlt] at k1
    by_cases h2 : l[k].kind = 2
    · have he : isEv 2 l[k].id l[k] = true := (isEv_iff _ _ _).2 ⟨h2, rfl⟩
      have hans := mark_answer R hlt he
      have hkb : (l[k].kind != 2) = false := by simp [h2]
      by_cases hg : good l l[k].id = true
      · rw [if_pos ⟨h2, hg⟩] at k1
        have hin : l[k].id ∈ idsS l := mem_idsE.2 (ST.b _ (hasE_iff.2 ⟨_, List.getElem_mem hlt, he⟩))
        have hix := List.idxOf_lt_length_of_mem hin
        have hget : (idsS l)[(idsS l).idxOf l[k].id]? = some l[k].id := by rw [List.getElem?_eq_getElem hix, List.getElem_idxOf]
        have hnd : (idsS l).Nodup := by rw [← V.ids]; exact V.nd
        have hni : ((takenAt l k).testBit ((idsS l).idxOf l[k].id)) = false := by
          cases hq : (takenAt l k).testBit ((idsS l).idxOf l[k].id) with
          | false => rfl
          | true =>
            obtain ⟨id, g1, g2, _⟩ := (taken_bit R k (by omega) _).1 hq
            rw [hget] at g1
            obtain rfl := Option.some.inj g1
            rw [mark_new R hlt he] at g2; cases g2
        generalize (idsS l).idxOf l[k].id = i at *
        have hi : i < (foldO l).all.length := by rw [← V.len, V.ids]; exact hix
        obtain ⟨a1, a2, a3, a4⟩ := V.one i _ l[k].id (List.getElem?_eq_getElem hi) (by rw [V.ids]; exact hget)
        refine .step _ _ i hi hni ?_ _ ?_ k1
        · have : (foldO l).all[i].ahead &&& takenAt l k = (foldO l).all[i].ahead := by
            refine Nat.eq_of_testBit_eq fun q => ?_
            rw [Nat.testBit_and]
            cases hq : (foldO l).all[i].ahead.testBit q with
            | false => rfl
            | true =>
              obtain ⟨id', g1, g2⟩ := (a4 q).1 hq
              rw [(taken_bit R k (by omega) q).2 ⟨id', by rw [← V.ids]; exact g1, ahead_marked R hlt he g2, by rw [good, (ahead_has g2).1]; rfl⟩]; rfl
          simp [blocked, this]
        · unfold Next
          by_cases c : ((foldO l).all[i].ended && idleS (foldO l).all[i].a) = true
          · rw [if_pos c]
            rw [Bool.and_eq_true] at c
            have : idleS l[k].ans = true := by rw [← hans, ← a3 c.1]; exact c.2
            rw [runStep, if_pos (by rw [this, Bool.or_true])]
          · rw [if_neg c]
            have hid : idleS l[k].ans = false := by
              cases hq : idleS l[k].ans with
              | false => rfl
              | true =>
                have h3 : hasE l 3 l[k].id = true := by
                  rw [good, hans, hq] at hg; simpa using hg
                have h4 : (foldO l).all[i].ended = true := by rw [a2]; exact h3
                exact absurd (by rw [h4, a3 h4, hans, hq]; rfl) c
            have hrs : ¬ ((l[k].kind != 2) || idleS l[k].ans) = true := by rw [hkb, hid]; decide
            rw [runStep, if_neg hrs] at hn ⊢
            have hd2 : (!decide (doA (runT (opOf l) l m k).1 (opOf l l[k].id) = l[k].ans)) = false := by
              cases hq : (!decide (doA (runT (opOf l) l m k).1 (opOf l l[k].id) = l[k].ans)) with
              | false => rfl
              | true =>
                rw [hq] at hn
                simp only [Bool.true_and, decide_eq_true_eq, if_pos hn0] at hn
                omega
            refine ⟨?_, by rw [a1]⟩
            rw [a1]
            cases h4 : (foldO l).all[i].ended with
            | false => rfl
            | true => rw [a3 h4, hans, hd2]; rfl
      · rw [if_neg (fun h => hg h.2)] at k1
        have hid : idleS l[k].ans = true := by
          rw [good, hans] at hg
          cases hq : idleS l[k].ans with
          | true => rfl
          | false => rw [hq] at hg; simp at hg
        rw [runStep, if_pos (by rw [hid, Bool.or_true])] at k1
        exact k1
    · rw [if_neg (fun h => h2 h.1)] at k1
      rw [runStep, if_pos (by rw [bne, show (l[k].kind == 2) = false by simpa using h2]; rfl)] at k1
      exact k1
end Go.Proofs.Ytandbjhedkgldaa.LF
