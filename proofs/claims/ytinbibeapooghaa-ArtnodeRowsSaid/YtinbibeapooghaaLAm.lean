/- From one memory to a later one: blocks of F were written, and are now those of F'; cells of rows, read and written. -/
import Derived.Test.YtinbibeapooghaaLAa
import Derived.Test.YtinbibeapooghaaLGb
set_option linter.unusedVariables false
set_option linter.unusedSimpArgs false
namespace Go.Proofs.Ytinbibeapooghaa.LF
open Go.RowKit
set_option linter.unusedVariables false

structure MvF (S : LS) (F : Nat → Prop) (S' : LS) (F' : Nat → Prop) : Prop where
  box : ∀ c cs, S.box c = some cs → ¬ F c → S'.box c = some cs ∧ ¬ F' c
  row : ∀ c x, S.row c = some x → S'.row c = some x
  obj : ∀ c x, S.obj c = some x → S'.obj c = some x
  top : S.top ≤ S'.top
theorem MvF.refl (S : LS) (F : Nat → Prop) : MvF S F S F := ⟨fun _ _ h k => ⟨h, k⟩, fun _ _ h => h, fun _ _ h => h, Nat.le_refl _⟩
theorem MvF.trans {S S' S'' : LS} {F F' F'' : Nat → Prop} (h : MvF S F S' F') (k : MvF S' F' S'' F'') : MvF S F S'' F'' :=
  ⟨fun c cs hc hn => k.box c cs (h.box c cs hc hn).1 (h.box c cs hc hn).2, fun c x hc => k.row c x (h.row c x hc), fun c x hc => k.obj c x (h.obj c x hc), Nat.le_trans h.top k.top⟩
theorem MvF.setBox {S : LS} {F F' : Nat → Prop} {b : Nat} (hb : F b) (cs : List LV) (hF : ∀ c, F' c → F c) : MvF S F (S.setBox b cs) F' :=
  ⟨fun c x hc hn => ⟨(box_set_ne _ _ fun e => hn (by rw [e]; exact hb)).trans hc, fun h => hn (hF c h)⟩, fun _ _ h => h, fun _ _ h => h, Nat.le_refl _⟩
theorem MvF.own (S : LS) (b : Nat) (cs : List LV) : MvF S (fun x => x = b) (S.setBox b cs) (fun x => x = b) := MvF.setBox (F := fun x => x = b) rfl cs fun _ h => h
theorem MvF.le {S S' : LS} {F F' : Nat → Prop} (h : S.le S') (hF : ∀ c cs, S.box c = some cs → ¬ F c → ¬ F' c) : MvF S F S' F' :=
  ⟨fun c cs hc hn => ⟨h.box c cs hc, hF c cs hc hn⟩, h.row, h.obj, h.top⟩
theorem MvF.mono {S S' : LS} {F F' G G' : Nat → Prop} (h : MvF S F S' F') (hf : ∀ c, F c → G c) (hg : ∀ c, G' c → F' c ∨ G c) : MvF S G S' G' :=
  ⟨fun c cs hc hn => ⟨(h.box c cs hc fun e => hn (hf c e)).1, fun e => by
    rcases hg c e with e | e
    · exact (h.box c cs hc fun e => hn (hf c e)).2 e
    · exact hn e⟩, h.row, h.obj, h.top⟩

/-- What may be written of two slices. -/
abbrev FSb (bs : Nat) (A B : LV) (x : Nat) : Prop := x = bs ∨ blockOf A = some x ∨ blockOf B = some x
theorem SlAt.keepB {α : Type} {f : α → List LV} {z : Nat} {S S' : LS} {Y : LV} {m : List α} (k : SlAt f z S Y m) (h : ∀ c cs, blockOf Y = some c → S.box c = some cs → S'.box c = some cs) : SlAt f z S' Y m := by
  cases k with
  | nil => exact .nil
  | row r c _ rest hr => exact .row r c m rest ⟨h r _ rfl hr.box, hr.room, hr.cap⟩
theorem SlAt.row_of {α : Type} {f : α → List LV} {z : Nat} {S : LS} {X : LV} {l : List α} (h : SlAt f z S X l) (hl : 0 < l.length) : ∃ r c rest, X = rsl r 0 l.length c ∧ RowIn f z S r l c rest := by
  cases h with
  | nil => simp at hl
  | row r c _ rest h => exact ⟨r, c, rest, rfl, h⟩
theorem rd_one {i : TI} (hi : i.isAgg = false) {cs : List LV} {p : Nat} {Y : LV} (h : cs[p]? = some Y) : readT i (cs.drop p) = some (.one Y) := by
  have hlt : p < cs.length := (List.getElem?_eq_some_iff.1 h).1
  rw [List.drop_eq_getElem_cons hlt]
  have : cs[p] = Y := (List.getElem?_eq_some_iff.1 h).2
  rw [this]; unfold readT; rw [hi]; rfl
theorem rd_cells {α : Type} {f : α → List LV} (hz : ∀ x, (f x).length = 1) {i : TI} {l : List α} {rest : List LV} {n : Nat} (hn : n < l.length) {Y : LV} (hY : f l[n] = [Y]) (hi : i.isAgg = false := by rfl) : readT i ((cellsR f l ++ rest).drop (n * 1)) = some (.one Y) := by
  rw [cellsR_at hz l rest hn, hY]; unfold readT; rw [hi]; rfl
theorem cellsR_set_same {α : Type} {f : α → List LV} {l : List α} {i : Nat} {y : α} (hi : i < l.length) (e : f y = f l[i]) : cellsR f (l.set i y) = cellsR f l := by
  have : (l.set i y).map f = l.map f := by
    rw [List.map_set, e]
    apply List.ext_getElem?
    intro j
    rw [List.getElem?_set]
    split
    · rename_i h; subst h
      simp [hi]
    · rfl
  unfold cellsR
  rw [this]
theorem wrap64_small {n : Int} (h : -9223372036854775808 ≤ n ∧ n < 9223372036854775808) : IntKind.i64.wrap n = n := by
  rw [IntKind.wrap_i64]; omega
theorem splice_set {cs : List LV} {p : Nat} {v : LV} (h : p < cs.length) : splice cs p [v] = cs.set p v := by
  rw [List.set_eq_take_append_cons_drop, if_pos h]; simp [splice]
end Go.Proofs.Ytinbibeapooghaa.LF
