/- The document's map: a list of pairs in no row. Plain, and the walks of Get, Without, With, New, next, All, Same. -/
import Derived.Test.YtndcdmmmfplbbaaLOe
import Derived.Test.YtndcdmmmfplbbaaLKlo
set_option linter.unusedVariables false
set_option linter.unusedSimpArgs false
namespace Go.Proofs.Ytndcdmmmfplbbaa.LF
open Go.RowKit
set_option linter.unusedVariables false

abbrev mapW (w : List Pr) : List LV := [.sl .sh (w.map prL)]
def findW (w : List Pr) (k : ByteArray) : Option Pr := w.find? fun p => decide (p.key = k)
def oldW (w : List Pr) (k : ByteArray) : ByteArray := match findW w k with
  | some p => p.val
  | none => noBytes
def withoutW (w : List Pr) (k : ByteArray) : List Pr := w.filter fun p => !decide (p.key = k)
def withW (w : List Pr) (k v : ByteArray) : List Pr := withoutW w k ++ [⟨k, v⟩]
def newW (l : List Pr) : List Pr := l.foldl (fun m p => withW m p.key p.val) []
def skipW (k : ByteArray) (after : Bool) (p : Pr) : Bool := ltS p.key k || (after && decide (p.key = k))
def nextStep (k : ByteArray) (after : Bool) (a : Option Pr) (p : Pr) : Option Pr :=
  if skipW k after p then a else match a with
    | none => some p
    | some q => if ltS p.key q.key then some p else a
def nextW (w : List Pr) (k : ByteArray) (after : Bool) : Option Pr := w.foldl (nextStep k after) none

theorem withoutW_length (w : List Pr) (k : ByteArray) : (withoutW w k).length ≤ w.length := List.length_filter_le _ _
theorem withW_length (w : List Pr) (k v : ByteArray) : (withW w k v).length ≤ w.length + 1 := by
  have := withoutW_length w k
  rw [withW, List.length_append]; simp only [List.length_cons, List.length_nil]; omega
theorem newW_take {l : List Pr} {j : Nat} (h : j < l.length) : newW (l.take (j + 1)) = withW (newW (l.take j)) l[j].key l[j].val := by
  unfold newW
  rw [List.take_succ_eq_append_getElem h, List.foldl_append]; rfl
theorem newW_length (l : List Pr) : (newW l).length ≤ l.length := by
  have : ∀ (l m : List Pr), (l.foldl (fun m p => withW m p.key p.val) m).length ≤ m.length + l.length := by
    intro l
    induction l with
    | nil => intro m; simp
    | cons p l ih =>
      intro m
      have := ih (withW m p.key p.val)
      have := withW_length m p.key p.val
      rw [List.foldl_cons, List.length_cons]; omega
  have h := this l []
  rw [List.length_nil, Nat.zero_add] at h
  exact h

/-- The same pairs as a sorted list. -/
structure Alike (w l : List Pr) : Prop where
  perm : w.Perm l
  srt : Srt l
theorem Alike.mem {w l : List Pr} (h : Alike w l) (p : Pr) : p ∈ w ↔ p ∈ l := h.perm.mem_iff
theorem Alike.nil : Alike [] [] := ⟨.refl _, .nil⟩
theorem Alike.len {w l : List Pr} (h : Alike w l) : w.length = l.length := h.perm.length_eq
theorem Alike.nodup {w l : List Pr} (h : Alike w l) : w.Nodup := h.perm.nodup_iff.2 h.srt.nodup
theorem Alike.without {w l : List Pr} (h : Alike w l) (k : ByteArray) : Alike (withoutW w k) (dropP l k) := by
  refine ⟨(List.perm_ext_iff_of_nodup (show (withoutW w k).Nodup from h.nodup.filter _) (h.srt.drop k).nodup).2 fun p => ?_, h.srt.drop k⟩
  rw [mem_dropP h.srt, ← h.mem, withoutW, List.mem_filter]
  simp
theorem Alike.with {w l : List Pr} (h : Alike w l) (k v : ByteArray) : Alike (withW w k v) (setP l k v) := by
  have hn : (withW w k v).Nodup := by
    rw [withW, List.nodup_append]
    refine ⟨h.nodup.filter _, by simp, fun p hp q hq e => ?_⟩
    obtain rfl : q = ⟨k, v⟩ := by simpa using hq
    subst e
    rw [withoutW, List.mem_filter] at hp
    simp at hp
  refine ⟨(List.perm_ext_iff_of_nodup hn (h.srt.set k v).nodup).2 fun p => ?_, h.srt.set k v⟩
  rw [mem_setP h.srt, ← h.mem, withW, List.mem_append, withoutW, List.mem_filter]
  simp only [Bool.not_eq_true', decide_eq_false_iff_not, List.mem_singleton]
  constructor
  · rintro (h1 | h1)
    · exact .inr h1
    · exact .inl h1
  · rintro (h1 | h1)
    · exact .inr h1
    · exact .inl h1
theorem Alike.new (l : List Pr) : Alike (newW l) (newP l) := by
  have : ∀ (l m n : List Pr), Alike m n → Alike (l.foldl (fun m p => withW m p.key p.val) m) (l.foldl (fun m p => setP m p.key p.val) n) := by
    intro l
    induction l with
    | nil => exact fun m n h => h
    | cons p l ih => exact fun m n h => ih _ _ (h.with _ _)
  exact this l [] [] .nil
theorem Alike.find {w l : List Pr} (h : Alike w l) (k : ByteArray) : (findW w k).map (·.val) = getP l k := by
  cases e : findW w k with
  | none =>
    symm
    rw [Option.map_none, getP_none h.srt]
    intro p hp hk
    have := List.find?_eq_none.1 e p ((h.mem p).2 hp)
    simp [hk] at this
  | some p =>
    have hp := List.mem_of_find?_eq_some e
    have hk := List.find?_some e
    have hk : p.key = k := by simpa using hk
    symm
    rw [Option.map_some, mem_getP h.srt, ← h.mem, ← hk]
    exact hp
theorem Alike.old {w l : List Pr} (h : Alike w l) (k : ByteArray) : oldW w k = oldP l k := by
  have := h.find k
  rw [oldP, ← this, oldW]
  cases findW w k <;> rfl
theorem Alike.has {w l : List Pr} (h : Alike w l) (k : ByteArray) : (findW w k).isSome = hasP l k := by
  rw [getP_has, ← h.find k]; simp

def NextIs (k : ByteArray) (after : Bool) (w : List Pr) : Prop := (nextW w k after = none ∧ ∀ p ∈ w, skipW k after p = true) ∨
    ∃ p ∈ w, nextW w k after = some p ∧ skipW k after p = false ∧ ∀ q ∈ w, skipW k after q = false → ltS q.key p.key = false
theorem NextIs.step {k : ByteArray} {after : Bool} {w : List Pr} (ih : NextIs k after w) (x : Pr) : NextIs k after (w ++ [x]) := by
  unfold NextIs at ih ⊢
  have e : nextW (w ++ [x]) k after = nextStep k after (nextW w k after) x := by unfold nextW; rw [List.foldl_append]; rfl
  cases hs : skipW k after x with
  | true =>
    have e2 : nextStep k after (nextW w k after) x = nextW w k after := by unfold nextStep; rw [if_pos hs]
    rw [e, e2]
    rcases ih with ⟨h1, h2⟩ | ⟨p, h1, h2, h3, h4⟩
    · refine .inl ⟨h1, fun p hp => ?_⟩
      rcases List.mem_append.1 hp with hp | hp
      · exact h2 p hp
      · rw [List.mem_singleton.1 hp]; exact hs
    · refine .inr ⟨p, List.mem_append_left _ h1, h2, h3, fun q hq hqs => ?_⟩
      rcases List.mem_append.1 hq with hq | hq
      · exact h4 q hq hqs
      · rw [List.mem_singleton.1 hq, hs] at hqs; cases hqs
  | false =>
    rcases ih with ⟨h1, h2⟩ | ⟨p, h1, h2, h3, h4⟩
    · refine .inr ⟨x, by simp, by rw [e, h1]; unfold nextStep; rw [if_neg (by rw [hs]; decide)], hs, fun q hq hqs => ?_⟩
      rcases List.mem_append.1 hq with hq | hq
      · rw [h2 q hq] at hqs; cases hqs
      · rw [List.mem_singleton.1 hq]; exact ltS_irrefl _
    · cases hl : ltS x.key p.key with
      | true =>
        refine .inr ⟨x, by simp, by rw [e, h2]; unfold nextStep; rw [if_neg (by rw [hs]; decide)]; simp only [hl, if_true], hs, fun q hq hqs => ?_⟩
        rcases List.mem_append.1 hq with hq | hq
        · cases hq2 : ltS q.key x.key with
          | false => rfl
          | true => have := ltS_trans hq2 hl; rw [h4 q hq hqs] at this; cases this
        · rw [List.mem_singleton.1 hq]; exact ltS_irrefl _
      | false =>
        refine .inr ⟨p, List.mem_append_left _ h1, by rw [e, h2]; unfold nextStep; rw [if_neg (by rw [hs]; decide)]; simp only [hl, Bool.false_eq_true, if_false], h3, fun q hq hqs => ?_⟩
        rcases List.mem_append.1 hq with hq | hq
        · exact h4 q hq hqs
        · rw [List.mem_singleton.1 hq]; exact hl
theorem nextW_spec (k : ByteArray) (after : Bool) (w : List Pr) : NextIs k after w := by
  have : ∀ (w u : List Pr), NextIs k after u → NextIs k after (u ++ w) := by
    intro w
    induction w with
    | nil => intro u h; rw [List.append_nil]; exact h
    | cons x w ih =>
      intro u h
      have := ih (u ++ [x]) (h.step x)
      rwa [List.append_assoc] at this
  exact this w [] (.inl ⟨rfl, by simp⟩)
theorem Alike.next {w l : List Pr} (h : Alike w l) (k : ByteArray) (after : Bool) : nextW w k after = nextP l k after := by
  obtain ⟨L, o, R, c⟩ := cut_of h.srt k
  rw [c.nextO after]
  have hskL : ∀ p ∈ L, skipW k after p = true := fun p hp => by simp [skipW, c.lo p hp]
  have hskR : ∀ p ∈ R, skipW k after p = false := fun p hp => by
    have h1 := c.hi p hp
    have h2 : p.key ≠ k := fun e => by rw [e, ltS_irrefl] at h1; cases h1
    simp [skipW, ltS_asymm h1, h2]
  have hskO : ∀ p, o = some p → skipW k after p = after := fun p hp => by
    have := c.mid p hp
    simp [skipW, this, ltS_irrefl]
  have key : ∀ (H : List Pr), (∀ p ∈ H, skipW k after p = false) → (∀ p ∈ l, skipW k after p = false → p ∈ H) → (∀ p ∈ H, p ∈ l) → Srt H → nextW w k after = H[0]? := by
    intro H h1 h2 h3 h4
    rcases nextW_spec k after w with ⟨e, h5⟩ | ⟨p, h5, e, h6, h7⟩
    · rw [e]
      cases H with
      | nil => rfl
      | cons q H =>
        have := h5 q ((h.mem q).2 (h3 q (by simp)))
        rw [h1 q (by simp)] at this; cases this
    · rw [e]
      have hp := h2 p ((h.mem p).1 h5) h6
      cases H with
      | nil => cases hp
      | cons q H =>
        rw [Srt, List.pairwise_cons] at h4
        rcases List.mem_cons.1 hp with rfl | hp
        · rfl
        · have h8 := h7 q ((h.mem q).2 (h3 q (by simp))) (h1 q (by simp))
          rw [h4.1 p hp] at h8; cases h8
  have hs := h.srt
  rw [c.eq, Srt, List.append_assoc, List.pairwise_append] at hs
  have hs2 := hs.2.1
  cases after with
  | true =>
    simp only [if_true]
    refine key R hskR (fun p hp hk => ?_) (fun p hp => by rw [c.eq]; simp [hp]) (List.pairwise_append.1 hs2).2.1
    rw [c.eq, List.mem_append, List.mem_append] at hp
    rcases hp with (hp | hp) | hp
    · rw [hskL p hp] at hk; cases hk
    · rw [hskO p (Option.mem_toList.1 hp)] at hk; cases hk
    · exact hp
  | false =>
    simp only [Bool.false_eq_true, if_false]
    refine key (o.toList ++ R) (fun p hp => ?_) (fun p hp hk => ?_) (fun p hp => by rw [c.eq, List.append_assoc]; exact List.mem_append_right _ hp) hs2
    · rcases List.mem_append.1 hp with hp | hp
      · exact hskO p (Option.mem_toList.1 hp)
      · exact hskR p hp
    · rw [c.eq, List.append_assoc, List.mem_append] at hp
      rcases hp with hp | hp
      · rw [hskL p hp] at hk; cases hk
      · exact hp
theorem next_at {l : List Pr} (h : Srt l) {j : Nat} (hj : j < l.length) : nextP l l[j].key true = l[j + 1]? := by
  obtain ⟨L, o, R, c⟩ := cut_of h l[j].key
  rw [c.nextO true]
  simp only [if_true]
  have hm : l[j] ∈ l := List.getElem_mem hj
  have hhas : getP l l[j].key = some l[j].val := (mem_getP h _ _).2 hm
  rw [c.getO] at hhas
  cases o with
  | none => cases hhas
  | some p =>
    have e : p = l[j] := by
      refine h.uniq ?_ hm (c.mid p rfl)
      rw [c.eq]; simp
    have hL : L.length = j := by
      have e1 : l[L.length]? = some p := by
        conv => lhs; rw [c.eq, List.append_assoc]
        rw [List.getElem?_append_right (Nat.le_refl _), Nat.sub_self]; rfl
      obtain ⟨hlt, e2⟩ := List.getElem?_eq_some_iff.1 e1
      have e3 := e2.trans e
      rcases Nat.lt_trichotomy L.length j with h1 | h1 | h1
      · have := h.at h1 hj; rw [e3, ltS_irrefl] at this; cases this
      · exact h1
      · have := h.at h1 hlt; rw [e3, ltS_irrefl] at this; cases this
    rw [← hL]
    conv => rhs; rw [c.eq, List.append_assoc]
    rw [List.getElem?_append_right (by omega), show L.length + 1 - L.length = 1 by omega]
    rfl
theorem next_first {l : List Pr} (h : Srt l) : nextP l noBytes false = l[0]? := by
  have : posP l noBytes = 0 := by
    refine posP_of (Nat.zero_le _) (fun i hi => by omega) fun hl => ?_
    unfold ltS ltB
    simp
  unfold nextP
  rw [this]
  simp
end Go.Proofs.Ytndcdmmmfplbbaa.LF
