/- OmapLasts: what an operation leaves and what it turns, as Get tells it (plain). -/
import Derived.Test.YtndcdmmmfplbbaaLOr
set_option linter.unusedVariables false
set_option linter.unusedSimpArgs false
namespace Go.Proofs.Ytndcdmmmfplbbaa.LF
open Go.RowKit
set_option linter.unusedVariables false

abbrev getOp (k : ByteArray) : OpV := ⟨1, k, noBytes, noBytes, false, false, []⟩
abbrev gotA (v : Option ByteArray) : Ans := ⟨0, v.isSome, noBytes, v.getD noBytes⟩
theorem get_ref {k : ByteArray} (hk : k.size ≤ 24) : refusedO (getOp k) = 0 := by
  rw [refusedO, if_pos (by simp)]
  show refusalS (largeS k noBytes) 7 = 0
  rw [large_key, decide_eq_false (by omega)]; rfl
theorem get_big {k : ByteArray} (hk : ¬ k.size ≤ 24) : refusedO (getOp k) = 7 := by
  rw [refusedO, if_pos (by simp)]
  show refusalS (largeS k noBytes) 7 = 7
  rw [large_key, decide_eq_true (by omega)]; rfl
theorem get_ans {l : List Pr} {k : ByteArray} (hk : k.size ≤ 24) : doA l (getOp k) = gotA (getP l k) := by
  rw [doA, if_pos (get_ref hk), if_pos (by simp)]
  show (⟨0, hasP l k, noBytes, oldP l k⟩ : Ans) = _
  rw [getP_has]; rfl
theorem get_ansBig {l : List Pr} {k : ByteArray} (hk : ¬ k.size ≤ 24) : doA l (getOp k) = ⟨7, false, noBytes, noBytes⟩ := by
  rw [doA, if_neg (by rw [get_big hk]; decide), get_big hk]
theorem get_doM (l : List Pr) (k : ByteArray) : doM l (getOp k) = l := by
  by_cases h : refusedO (getOp k) = 0
  · rw [doM, if_pos h, if_neg (by simp), if_neg (by simp), if_neg (by simp), if_neg (by simp)]
  · rw [doM, if_neg h]

def namT (o : OpV) (k : ByteArray) : Bool := decide (o.key = k) && ((o.kind == 2 || o.kind == 3) || o.kind == 4)
def namW (o : OpV) (k : ByteArray) (ws : List Wr) : Bool := ws.any fun w => o.kind == 6 && decide (w.key = k)
theorem code_ok {l : List Pr} {o : OpV} (h : refusedO o = 0) : (doA l o).code = 0 := by
  rw [doA, if_pos h]
  repeat' split
  · rfl
  · rfl
  · cases nextP l o.key o.after <;> rfl
  · rfl
theorem code_bad {l : List Pr} {o : OpV} (h : ¬ refusedO o = 0) : (doA l o).code ≠ 0 := by rw [doA, if_neg h]; exact h
/-- What isn't named, or is refused, stays. -/
theorem stays {l : List Pr} (hs : Srt l) (o : OpV) (k : ByteArray) (h : (namT o k || namW o k o.writes) = false ∨ (doA l o).code ≠ 0) : doA (doM l o) (getOp k) = doA l (getOp k) := by
  by_cases hk : k.size ≤ 24
  · rw [get_ans hk, get_ans hk]
    have e : getP (doM l o) k = getP l k := by
      by_cases hr : refusedO o = 0
      · rcases h with h | h
        · rw [Bool.or_eq_false_iff] at h
          by_cases hn : k ∈ keysO o
          · have hd : doM l o = l := by
              unfold keysO at hn
              by_cases h6 : o.kind = 6
              · rw [if_pos h6] at hn
                obtain ⟨w, hw, e⟩ := List.mem_map.1 hn
                have : namW o k o.writes = true := List.any_eq_true.2 ⟨w, hw, by simp [h6, e]⟩
                rw [this] at h; cases h.2
              · rw [if_neg h6] at hn
                have e : k = o.key := by simpa using hn
                have h1 := h.1
                unfold namT at h1
                rw [e, decide_eq_true rfl, Bool.true_and] at h1
                simp at h1
                rw [doM, if_pos hr, if_neg h1.1.1, if_neg h1.1.2, if_neg h1.2, if_neg h6]
            rw [hd]
          · exact getP_doM_out hs o hn
        · exact absurd (code_ok hr) h
      · rw [doM, if_neg hr]
    rw [e]
  · rw [get_ansBig hk, get_ansBig hk]
theorem named_key {o : OpV} {k : ByteArray} (h : (namT o k || namW o k o.writes) = true) (h6 : o.kind ≠ 6) : o.key = k := by
  have h2 : namW o k o.writes = false := by
    unfold namW; rw [List.any_eq_false]; intro w _; simp [h6]
  rw [h2, Bool.or_false] at h
  unfold namT at h
  rw [Bool.and_eq_true, decide_eq_true_eq] at h
  exact h.1
theorem small_key {o : OpV} (h : refusedO o = 0) (hk : o.kind = 2 ∨ o.kind = 3 ∨ o.kind = 4) : o.key.size ≤ 24 := by
  by_cases hn : o.key.size ≤ 24
  · exact hn
  · exfalso
    have hb : ∀ v, largeS o.key v = true := fun v => by unfold largeS; rw [decide_eq_true (by omega), Bool.true_or]
    unfold refusedO at h
    rcases hk with e | e | e
    · rw [if_neg (by omega), if_pos e, hb] at h; cases h
    · rw [if_pos (.inr (.inl e)), hb] at h; cases h
    · rw [if_neg (by omega), if_neg (by omega), if_pos e, hb, Bool.true_or] at h; cases h
theorem puts {l : List Pr} (hs : Srt l) {o : OpV} (hr : refusedO o = 0) (h2 : o.kind = 2) : doA l (getOp o.key) = gotA (getP l o.key) ∧ doA l o = gotA (getP l o.key) ∧ doA (doM l o) (getOp o.key) = gotA (some o.val) := by
  have hk := small_key hr (.inl h2)
  refine ⟨get_ans hk, ?_, ?_⟩
  · rw [doA, if_pos hr, if_pos (.inr (.inl h2)), getP_has]; rfl
  · rw [get_ans hk, doM, if_pos hr, if_pos h2, getP_set hs, if_pos rfl]
theorem dels {l : List Pr} (hs : Srt l) {o : OpV} (hr : refusedO o = 0) (h3 : o.kind = 3) : doA l (getOp o.key) = gotA (getP l o.key) ∧ doA l o = gotA (getP l o.key) ∧ doA (doM l o) (getOp o.key) = noAns := by
  have hk := small_key hr (.inr (.inl h3))
  refine ⟨get_ans hk, ?_, ?_⟩
  · rw [doA, if_pos hr, if_pos (.inr (.inr h3)), getP_has]; rfl
  · rw [get_ans hk, doM, if_pos hr, if_neg (by omega), if_pos h3, getP_drop hs, if_pos rfl]; rfl
theorem swaps {l : List Pr} (hs : Srt l) {o : OpV} (hr : refusedO o = 0) (h4 : o.kind = 4) : doA l (getOp o.key) = gotA (getP l o.key) ∧ doA l o = ⟨0, doneO l o, noBytes, oldP l o.key⟩ ∧ doA (doM l o) (getOp o.key) = (if doneO l o then gotA (some o.val) else gotA (getP l o.key)) := by
  have hk := small_key hr (.inr (.inr h4))
  refine ⟨get_ans hk, ?_, ?_⟩
  · rw [doA, if_pos hr, if_neg (by omega), if_pos h4]
  · rw [get_ans hk, doM, if_pos hr, if_neg (by omega), if_neg (by omega), if_pos h4]
    split
    · rw [getP_set hs, if_pos rfl]
    · rfl
theorem batches {l : List Pr} (hs : Srt l) {o : OpV} (hr : refusedO o = 0) (h6 : o.kind = 6) {j : Nat} (hj : j < o.writes.length) (hno : ∀ (i : Nat) (hi : i < o.writes.length), j < i → o.writes[i].key ≠ o.writes[j].key) : doA (doM l o) (getOp o.writes[j].key) = (if o.writes[j].gone then noAns else gotA (some o.writes[j].val)) := by
  have hk : o.writes[j].key.size ≤ 24 := by
    by_cases hn : o.writes[j].key.size ≤ 24
    · exact hn
    · exfalso
      have hb : o.writes.any badW = true := List.any_eq_true.2 ⟨_, List.getElem_mem hj, by unfold badW; rw [large_key, decide_eq_true (by omega), Bool.true_or]⟩
      have hl := refused_long hr h6
      unfold refusedO at hr
      rw [if_neg (by omega), if_neg (by omega), if_neg (by omega), if_pos h6, if_neg (by omega), hb] at hr
      cases hr
  have e : getP (doM l o) o.writes[j].key = (if o.writes[j].gone then none else some o.writes[j].val) := by
    rw [doM, if_pos hr, if_neg (by omega), if_neg (by omega), if_neg (by omega), if_pos h6]
    have hw : o.writes = o.writes.take (j + 1) ++ o.writes.drop (j + 1) := (List.take_append_drop _ _).symm
    have e1 : o.writes.foldl stepW l = (o.writes.drop (j + 1)).foldl stepW (stepW ((o.writes.take j).foldl stepW l) o.writes[j]) := by
      conv => lhs; rw [hw, List.take_succ_eq_append_getElem hj, List.foldl_append, List.foldl_append]
      rfl
    rw [e1]
    have hout : ∀ w ∈ o.writes.drop (j + 1), w.key ≠ o.writes[j].key := fun w hw => by
      obtain ⟨i, hi, e⟩ := List.mem_iff_getElem.1 hw
      rw [List.getElem_drop] at e
      rw [← e]
      exact hno _ _ (by omega)
    rw [getP_steps_out _ (stepW_srt (stepsW_srt _ hs) _) _ hout, getP_step (stepsW_srt _ hs), if_pos rfl]
  rw [get_ans hk, e]
  split <;> rfl
end Go.Proofs.Ytndcdmmmfplbbaa.LF
