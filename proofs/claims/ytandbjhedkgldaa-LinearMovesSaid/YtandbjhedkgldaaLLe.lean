/- Plain: the operations by their numbers in a right row; what the witness keeps. -/
import Derived.Test.YtandbjhedkgldaaLLd
import Derived.Test.YtandbjhedkgldaaQHo
namespace Go.Proofs.Ytandbjhedkgldaa.LF
open Go.RowKit H
set_option linter.unusedVariables false

theorem ok_of_check {l : List Ev} (h : (checkS (fun _ => noKn) l 0).2 = 0) : okS (fun _ => noKn) l := by
  rcases check_cases l (fun _ => noKn) 0 with ⟨_, h1⟩ | ⟨n, _, h2, _⟩
  · exact h1
  · rw [h2] at h; cases h
theorem right_of_check {l : List Ev} (h : (checkS (fun _ => noKn) l 0).2 = 0) : Right l := right_of_ok (ok_of_check h)

theorem opsS_snoc (l : List Ev) (e : Ev) : opsS (l ++ [e]) = opsAtS (opsS l) e := by
  unfold opsS; rw [List.foldl_append]; rfl
theorem findE_snoc (l : List Ev) (e : Ev) (k id : Int) : findE (l ++ [e]) k id = if hasE l k id = true then findE l k id else if isEv k id e = true then e else noEv := by
  unfold findE hasE
  rw [List.find?_append]
  cases hq : l.find? (isEv k id) with
  | some x => simp
  | none =>
    simp only [Option.none_or, List.find?_cons, List.find?_nil, Option.isSome_none, Bool.false_eq_true, if_false]
    split <;> rename_i h <;> simp [h]
theorem hasE_countS {l : List Ev} {k id : Int} (h : countS l k id = 0) : hasE l k id = false := by
  rw [← has_count, h]; rfl
theorem ops_take {l : List Ev} (R : Right l) (id : Int) : ∀ j, j ≤ l.length → opsS (l.take j) id = opOf (l.take j) id
  | 0, _ => rfl
  | j + 1, hj => by
    have ih := ops_take R id j (by omega)
    have hlt : j < l.length := by omega
    rw [List.take_succ_eq_append_getElem hlt, opsS_snoc, opsAtS, opOf, findE_snoc]
    by_cases hk : l[j].kind = 1
    · rw [if_pos hk]
      by_cases hi : id = l[j].id
      · subst hi
        have he : isEv 1 l[j].id l[j] = true := by rw [isEv_iff]; exact ⟨hk, rfl⟩
        have h0 := fits_begin (R j hlt) he
        rw [hasE_countS h0, if_pos rfl, if_pos he, if_neg (by decide)]
      · have he : isEv 1 id l[j] = false := isEv_id (fun e => hi e.symm)
        rw [if_neg hi, ih, he]
        by_cases hh : hasE (l.take j) 1 id = true
        · rw [if_pos hh]; rfl
        · rw [if_neg hh, if_neg (by decide)]
          have : (l.take j).find? (isEv 1 id) = none := by simpa [hasE] using hh
          simp [opOf, findE, this]
    · have he : isEv 1 id l[j] = false := isEv_kind hk
      rw [if_neg hk, ih, he]
      by_cases hh : hasE (l.take j) 1 id = true
      · rw [if_pos hh]; rfl
      · rw [if_neg hh, if_neg (by decide)]
        have : (l.take j).find? (isEv 1 id) = none := by simpa [hasE] using hh
        simp [opOf, findE, this]
/-- In a right row the last beginning of a number is the first. -/
theorem ops_right {l : List Ev} (R : Right l) (id : Int) : opsS l id = opOf l id := by
  have := ops_take R id l.length (Nat.le_refl _)
  rwa [List.take_length] at this

theorem fineO_bare : FineO noOp := ⟨by decide, by decide, by decide, by decide, fun w hw => by cases hw⟩
theorem fineO_opOf {l : List Ev} (h : ∀ e ∈ l, FineO e.op) (id : Int) : FineO (opOf l id) := by
  unfold opOf findE
  cases hq : l.find? (isEv 1 id) with
  | none => exact fineO_bare
  | some e => exact h e (List.mem_of_find?_eq_some hq)
theorem runT_srt (ops : Int → OpV) (l : List Ev) {m : List Pr} (hm : Srt m) : ∀ n, Srt (runT ops l m n).1
  | 0 => hm
  | n + 1 => by
    have ih := runT_srt ops l hm n
    rw [runT]
    split
    · unfold runStep
      split
      · exact ih
      · exact doM_srt ih _
    · exact ih
theorem runT_small (ops : Int → OpV) (ho : ∀ id, FineO (ops id)) (l : List Ev) {m : List Pr} (hm : Srt m) (h5 : Small5 m) : ∀ n, Small5 (runT ops l m n).1
  | 0 => h5
  | n + 1 => by
    have ih := runT_small ops ho l hm h5 n
    have is := runT_srt ops l hm n
    rw [runT]
    split
    · unfold runStep
      split
      · exact ih
      · exact ih.doM is (ho _)
    · exact ih
theorem runT_stay (ops : Int → OpV) (l : List Ev) (m : List Pr) {j : Nat} (h : 0 ≤ (runT ops l m j).2) : ∀ n, j ≤ n → (runT ops l m n).2 = (runT ops l m j).2
  | 0, hn => by obtain rfl : j = 0 := by omega
                rfl
  | n + 1, hn => by
    by_cases e : j = n + 1
    · rw [e]
    have ih := runT_stay ops l m h n (by omega)
    rw [runT]
    split
    · unfold runStep
      split
      · exact ih
      · dsimp only
        rw [if_neg (by rw [ih]; simp; omega)]; exact ih
    · exact ih
theorem runT_ext {f g : Int → OpV} (h : ∀ id, f id = g id) : f = g := funext h
end Go.Proofs.Ytandbjhedkgldaa.LF
