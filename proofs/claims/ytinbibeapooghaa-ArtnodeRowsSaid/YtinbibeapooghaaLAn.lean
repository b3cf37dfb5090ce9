/- A slice of an array's variable; tables of an index and its places (plain). -/
import Derived.Test.YtinbibeapooghaaLAm
import Derived.Test.YtinbibeapooghaaLGc
set_option linter.unusedVariables false
set_option linter.unusedSimpArgs false
namespace Go.Proofs.Ytinbibeapooghaa.LF
open Go.RowKit
set_option linter.unusedVariables false

/-- All of an array's variable, as a slice. -/
theorem LVal.slicePall {G : Ctx} {D : Tab} (hD : TabOK G.P D) {o : Oper} {T : Nat → TV} {S : LS} {t e : TypeId} {i j : TI} {x : Operand} {b off n : Nat} (ho : o.op = .slice t x none none none)
    (hx : lev T x = .one (.v (.pointer (some ⟨b, off, none⟩)))) (hi' : D.get t = some i) (hd : i.desc = .array n e) (hj : D.get e = some j) (hn : n ≠ 0) : LVal G o T S (.one (rsl b off n n)) :=
  .of_run fun K w ac hi'' hr => by
    have r1 := hr x (by rw [ho]; simp [Op.operands])
    rw [hx] at r1
    have e1 := (hD.get hi').und
    rw [hd] at e1
    have e2 : (Instr.sliceAt t (.pointer (some ⟨b, off, none⟩)) none none none).run G.P w = .ok (.slice (some ⟨b, off, none⟩) n n) w := by
      simp [Instr.sliceAt, Instr.sureAddr, run_underlying e1, Instr.sliceBounds, run_sizeOf' (hD.get hj), hn, add_off]
    refine ⟨_, ?_, .raw rfl⟩
    simp [execOp, ho, r1.flat, e2]

theorem first_free : ∀ (us : List Bool), us.count true < us.length → ∃ i, ∃ h : i < us.length, us[i] = false ∧ ∀ (j : Nat) (hj : j < i), us[j]'(by omega) = true
  | [], h => by simp at h
  | false :: us, h => ⟨0, by simp, rfl, fun j hj => by omega⟩
  | true :: us, h => by
    obtain ⟨i, hi, h1, h2⟩ := first_free us (by simpa using h)
    refine ⟨i + 1, by simpa using hi, by simpa using h1, fun j hj => ?_⟩
    cases j with
    | zero => rfl
    | succ j => simpa using h2 j (by omega)
theorem count_on {us : List Bool} {i : Nat} (h : us[i]? = some false) : (us.set i true).count true = us.count true + 1 := by
  induction us generalizing i with
  | nil => simp at h
  | cons u us ih =>
    cases i with
    | zero => obtain rfl : u = false := by simpa using h
              simp
    | succ i =>
      have := ih (i := i) (by simpa using h)
      rw [List.set_cons_succ, List.count_cons, List.count_cons, this]; omega
theorem count_off {us : List Bool} {i : Nat} (h : us[i]? = some true) : (us.set i false).count true + 1 = us.count true := by
  induction us generalizing i with
  | nil => simp at h
  | cons u us ih =>
    cases i with
    | zero => obtain rfl : u = true := by simpa using h
              simp
    | succ i =>
      have := ih (i := i) (by simpa using h)
      rw [List.set_cons_succ, List.count_cons, List.count_cons]; omega

variable {α : Type}
structure IxOK (pl : List Nat) (kd : List α) (us : List Bool) (l : Kv α) : Prop where
  hp : pl.length = 256
  hk : kd.length = 48
  hu : us.length = 48
  zero : ∀ b : Nat, pl[b]? = some 0 → lk l b = none
  one : ∀ b i : Nat, pl[b]? = some (i + 1) → us[i]? = some true ∧ ∃ x, kd[i]? = some x ∧ lk l b = some x
  inj : ∀ b c i : Nat, pl[b]? = some (i + 1) → pl[c]? = some (i + 1) → b = c
  cnt : us.count true = l.length
  ks : KS l
theorem IxOK.empty (z : α) : IxOK (List.replicate 256 0) (List.replicate 48 z) (List.replicate 48 false) ([] : Kv α) where
  hp := List.length_replicate
  hk := List.length_replicate
  hu := List.length_replicate
  zero := fun b _ => rfl
  one := fun b i h => by rw [List.getElem?_replicate] at h; split at h <;> simp at h
  inj := fun b c i h => by rw [List.getElem?_replicate] at h; split at h <;> simp at h
  cnt := by simp
  ks := .nil
theorem IxOK.at {pl : List Nat} {kd : List α} {us : List Bool} {l : Kv α} (h : IxOK pl kd us l) {b : Nat} (hb : b < 256) : (pl[b]? = some 0 ∧ hasK l b = false ∧ lk l b = none) ∨ ∃ i x, pl[b]? = some (i + 1) ∧ i < 48 ∧ us[i]? = some true ∧ kd[i]? = some x ∧ lk l b = some x ∧ hasK l b = true := by
  have e : pl[b]? = some (pl[b]'(by rw [h.hp]; exact hb)) := List.getElem?_eq_getElem _
  cases hq : pl[b]'(by rw [h.hp]; exact hb) with
  | zero =>
    rw [hq] at e
    have := h.zero b e
    exact .inl ⟨e, by simp [hasK, this], this⟩
  | succ i =>
    rw [hq] at e
    obtain ⟨h1, x, h2, h3⟩ := h.one b i e
    have hi := (List.getElem?_eq_some_iff.1 h1).1
    rw [h.hu] at hi
    exact .inr ⟨i, x, e, hi, h1, h2, h3, by simp [hasK, h3]⟩
/-- A byte's child is given anew. -/
theorem IxOK.over {pl : List Nat} {kd : List α} {us : List Bool} {l : Kv α} (h : IxOK pl kd us l) {b i : Nat} (hb : b < 256) (hp : pl[b]? = some (i + 1)) (x : α) : IxOK pl (kd.set i x) us (setL l b x) := by
  obtain ⟨h1, x0, h2, h3⟩ := h.one b i hp
  have hi : i < kd.length := (List.getElem?_eq_some_iff.1 h2).1
  have hk : hasK l b = true := by simp [hasK, h3]
  refine ⟨h.hp, by rw [List.length_set]; exact h.hk, h.hu, fun c hc => ?_, fun c j hc => ?_, h.inj, ?_, h.ks.set hb x⟩
  · rw [lk_set]
    have : c ≠ b := fun e => by subst e; rw [hp] at hc; cases hc
    rw [if_neg this]; exact h.zero c hc
  · obtain ⟨g1, y, g2, g3⟩ := h.one c j hc
    refine ⟨g1, ?_⟩
    by_cases e : c = b
    · subst e
      rw [hp] at hc
      obtain rfl : i = j := by simpa using hc
      exact ⟨x, by rw [List.getElem?_set_self hi], by rw [lk_set, if_pos rfl]⟩
    · have : i ≠ j := fun e2 => by subst e2; exact e (h.inj c b i hc hp)
      exact ⟨y, by rw [List.getElem?_set_ne this]; exact g2, by rw [lk_set, if_neg e]; exact g3⟩
  · rw [h.cnt, len_set h.ks, if_pos hk]
/-- A byte gets a place. -/
theorem IxOK.new {pl : List Nat} {kd : List α} {us : List Bool} {l : Kv α} (h : IxOK pl kd us l) {b i : Nat} (hb : b < 256) (hp : pl[b]? = some 0) (hf : us[i]? = some false) (x : α) : IxOK (pl.set b (i + 1)) (kd.set i x) (us.set i true) (setL l b x) := by
  have hi : i < us.length := (List.getElem?_eq_some_iff.1 hf).1
  have hik : i < kd.length := by rw [h.hk]; rw [h.hu] at hi; exact hi
  have hbl : b < pl.length := by rw [h.hp]; exact hb
  have hn := h.zero b hp
  have hk : hasK l b = false := by simp [hasK, hn]
  have hno : ∀ c j : Nat, pl[c]? = some (j + 1) → j ≠ i := fun c j hc e => by
    obtain ⟨g1, _⟩ := h.one c j hc
    rw [e, hf] at g1; cases g1
  have old : ∀ c : Nat, c ≠ b → (pl.set b (i + 1))[c]? = pl[c]? := fun c e => List.getElem?_set_ne fun e2 => e e2.symm
  have self : (pl.set b (i + 1))[b]? = some (i + 1) := List.getElem?_set_self hbl
  refine ⟨by rw [List.length_set]; exact h.hp, by rw [List.length_set]; exact h.hk, by rw [List.length_set]; exact h.hu, fun c hc => ?_, fun c j hc => ?_, fun c d j hc hd => ?_, ?_, h.ks.set hb x⟩
  · by_cases e : c = b
    · subst e; rw [self] at hc; cases hc
    · rw [old c e] at hc
      rw [lk_set, if_neg e]; exact h.zero c hc
  · by_cases e : c = b
    · subst e
      rw [self] at hc
      obtain rfl : i = j := by simpa using hc
      exact ⟨List.getElem?_set_self hi, x, List.getElem?_set_self hik, by rw [lk_set, if_pos rfl]⟩
    · rw [old c e] at hc
      obtain ⟨g1, y, g2, g3⟩ := h.one c j hc
      have hj := hno c j hc
      exact ⟨by rw [List.getElem?_set_ne fun e2 => hj e2.symm]; exact g1, y, by rw [List.getElem?_set_ne fun e2 => hj e2.symm]; exact g2, by rw [lk_set, if_neg e]; exact g3⟩
  · by_cases ec : c = b
    · by_cases ed : d = b
      · rw [ec, ed]
      · subst ec
        rw [self] at hc
        obtain rfl : i = j := by simpa using hc
        rw [old d ed] at hd
        exact absurd rfl (hno d i hd)
    · by_cases ed : d = b
      · subst ed
        rw [self] at hd
        obtain rfl : i = j := by simpa using hd
        rw [old c ec] at hc
        exact absurd rfl (hno c i hc)
      · rw [old c ec] at hc
        rw [old d ed] at hd
        exact h.inj c d j hc hd
  · rw [count_on hf, h.cnt, len_set h.ks, hk]; rfl
/-- A byte's place is free again. -/
theorem IxOK.drop {pl : List Nat} {kd : List α} {us : List Bool} {l : Kv α} (h : IxOK pl kd us l) {b i : Nat} (hp : pl[b]? = some (i + 1)) (z : α) : IxOK (pl.set b 0) (kd.set i z) (us.set i false) (delL l b) := by
  obtain ⟨h1, x0, h2, h3⟩ := h.one b i hp
  have hi : i < us.length := (List.getElem?_eq_some_iff.1 h1).1
  have hbl : b < pl.length := (List.getElem?_eq_some_iff.1 hp).1
  have hk : hasK l b = true := by simp [hasK, h3]
  have old : ∀ c : Nat, c ≠ b → (pl.set b 0)[c]? = pl[c]? := fun c e => List.getElem?_set_ne fun e2 => e e2.symm
  have self : (pl.set b 0)[b]? = some 0 := List.getElem?_set_self hbl
  refine ⟨by rw [List.length_set]; exact h.hp, by rw [List.length_set]; exact h.hk, by rw [List.length_set]; exact h.hu, fun c hc => ?_, fun c j hc => ?_, fun c d j hc hd => ?_, ?_, h.ks.del⟩
  · rw [lk_del h.ks]
    by_cases e : c = b
    · rw [if_pos e]
    · rw [old c e] at hc
      rw [if_neg e]; exact h.zero c hc
  · by_cases e : c = b
    · subst e; rw [self] at hc; cases hc
    · rw [old c e] at hc
      obtain ⟨g1, y, g2, g3⟩ := h.one c j hc
      have hj : i ≠ j := fun e2 => by subst e2; exact e (h.inj c b i hc hp)
      exact ⟨by rw [List.getElem?_set_ne hj]; exact g1, y, by rw [List.getElem?_set_ne hj]; exact g2, by rw [lk_del h.ks, if_neg e]; exact g3⟩
  · by_cases ec : c = b
    · subst ec; rw [self] at hc; cases hc
    · by_cases ed : d = b
      · subst ed; rw [self] at hd; cases hd
      · rw [old c ec] at hc
        rw [old d ed] at hd
        exact h.inj c d j hc hd
  · have := count_off h1
    have h4 := h.cnt
    rw [len_del h.ks, if_pos hk]; omega

structure DrOK (z : α) (kd : List α) (hs : List Bool) (l : Kv α) : Prop where
  hk : kd.length = 256
  hh : hs.length = 256
  kid : ∀ b : Nat, b < 256 → kd[b]? = some ((lk l b).getD z)
  has : ∀ b : Nat, b < 256 → hs[b]? = some (hasK l b)
  ks : KS l
theorem DrOK.empty (z : α) : DrOK z (List.replicate 256 z) (List.replicate 256 false) ([] : Kv α) where
  hk := List.length_replicate
  hh := List.length_replicate
  kid := fun b hb => by rw [List.getElem?_replicate, if_pos hb]; rfl
  has := fun b hb => by rw [List.getElem?_replicate, if_pos hb]; rfl
  ks := .nil
theorem DrOK.set {z : α} {kd : List α} {hs : List Bool} {l : Kv α} (h : DrOK z kd hs l) {b : Nat} (hb : b < 256) (x : α) : DrOK z (kd.set b x) (hs.set b true) (setL l b x) := by
  refine ⟨by rw [List.length_set]; exact h.hk, by rw [List.length_set]; exact h.hh, fun c hc => ?_, fun c hc => ?_, h.ks.set hb x⟩
  · rw [lk_set]
    by_cases e : c = b
    · subst e
      rw [List.getElem?_set_self (by rw [h.hk]; exact hc), if_pos rfl]; rfl
    · rw [List.getElem?_set_ne fun e2 => e e2.symm, if_neg e]; exact h.kid c hc
  · rw [hasK, lk_set]
    by_cases e : c = b
    · subst e
      rw [List.getElem?_set_self (by rw [h.hh]; exact hc), if_pos rfl]; rfl
    · rw [List.getElem?_set_ne fun e2 => e e2.symm, if_neg e]; exact h.has c hc
theorem DrOK.drop {z : α} {kd : List α} {hs : List Bool} {l : Kv α} (h : DrOK z kd hs l) {b : Nat} (hb : b < 256) : DrOK z (kd.set b z) (hs.set b false) (delL l b) := by
  refine ⟨by rw [List.length_set]; exact h.hk, by rw [List.length_set]; exact h.hh, fun c hc => ?_, fun c hc => ?_, h.ks.del⟩
  · rw [lk_del h.ks]
    by_cases e : c = b
    · subst e
      rw [List.getElem?_set_self (by rw [h.hk]; exact hc), if_pos rfl]; rfl
    · rw [List.getElem?_set_ne fun e2 => e e2.symm, if_neg e]; exact h.kid c hc
  · rw [hasK, lk_del h.ks]
    by_cases e : c = b
    · subst e
      rw [List.getElem?_set_self (by rw [h.hh]; exact hc), if_pos rfl]; rfl
    · rw [List.getElem?_set_ne fun e2 => e e2.symm, if_neg e]; exact h.has c hc

/-- The cells of tables, one behind the other. -/
theorem at_first {A B : List LV} {b : Nat} {Y : LV} (h : A[b]? = some Y) : (A ++ B)[b]? = some Y := by
  rw [List.getElem?_append_left (List.getElem?_eq_some_iff.1 h).1]; exact h
theorem at_then {A B : List LV} {n i : Nat} {Y : LV} (hn : A.length = n) (h : B[i]? = some Y) : (A ++ B)[n + i]? = some Y := by
  rw [List.getElem?_append_right (by omega), ← h]; congr 1; omega
theorem at_map {β : Type} {f : β → LV} {l : List β} {i : Nat} {x : β} (h : l[i]? = some x) : (l.map f)[i]? = some (f x) := by rw [List.getElem?_map, h]; rfl
theorem set_first {A B : List LV} {b : Nat} {v : LV} (h : b < A.length) : splice (A ++ B) b [v] = A.set b v ++ B := by
  rw [splice_set (by rw [List.length_append]; omega), List.set_append_left _ _ h]
theorem set_then {A B : List LV} {n i : Nat} {v : LV} (hn : A.length = n) (h : i < B.length) : splice (A ++ B) (n + i) [v] = A ++ B.set i v := by
  rw [splice_set (by rw [List.length_append]; omega), List.set_append_right _ _ (by omega)]
  congr 2; omega
end Go.Proofs.Ytinbibeapooghaa.LF
