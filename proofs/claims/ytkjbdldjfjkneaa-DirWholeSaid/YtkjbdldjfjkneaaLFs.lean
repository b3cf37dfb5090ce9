/- What a typed list of cells is; the frame's start. -/
import Derived.Test.YtkjbdldjfjkneaaLFk
set_option linter.unusedVariables false
set_option linter.unusedSimpArgs false
namespace Go.Proofs.Ytkjbdldjfjkneaa.LF
open Go.RowKit

section
variable {D : Tab} {t : TypeId} {i : TI} {l : List LV}
theorem typed_bool (hi : D.get t = some i) (hd : i.desc = .bool) (h : Typed D t l) : ∃ b, l = [.v (.bool b)] := by
  cases h with
  | bool h1 h2 b => exact ⟨b, rfl⟩
  | int h1 h2 => rw [hi] at h1; obtain rfl := Option.some.inj h1; rw [hd] at h2; cases h2
  | string h1 h2 => rw [hi] at h1; obtain rfl := Option.some.inj h1; rw [hd] at h2; cases h2
  | slice h1 h2 => rw [hi] at h1; obtain rfl := Option.some.inj h1; rw [hd] at h2; cases h2
  | struct h1 h2 => rw [hi] at h1; obtain rfl := Option.some.inj h1; rw [hd] at h2; cases h2
  | array h1 h2 => rw [hi] at h1; obtain rfl := Option.some.inj h1; rw [hd] at h2; cases h2
theorem typed_int {k : IntKind} (hi : D.get t = some i) (hd : i.desc = .int k) (h : Typed D t l) : ∃ n, l = [.v (.int k n)] ∧ (Lit.int k n).wf = true := by
  cases h with
  | bool h1 h2 => rw [hi] at h1; obtain rfl := Option.some.inj h1; rw [hd] at h2; cases h2
  | @int _ _ k' n h1 h2 wf => rw [hi] at h1; obtain rfl := Option.some.inj h1; rw [hd] at h2; cases h2; exact ⟨_, rfl, wf⟩
  | string h1 h2 => rw [hi] at h1; obtain rfl := Option.some.inj h1; rw [hd] at h2; cases h2
  | slice h1 h2 => rw [hi] at h1; obtain rfl := Option.some.inj h1; rw [hd] at h2; cases h2
  | struct h1 h2 => rw [hi] at h1; obtain rfl := Option.some.inj h1; rw [hd] at h2; cases h2
  | array h1 h2 => rw [hi] at h1; obtain rfl := Option.some.inj h1; rw [hd] at h2; cases h2
theorem typed_str (hi : D.get t = some i) (hd : i.desc = .string) (h : Typed D t l) : ∃ s, l = [.v (.string s)] ∧ s.size ≤ 140737488351232 := by
  cases h with
  | bool h1 h2 => rw [hi] at h1; obtain rfl := Option.some.inj h1; rw [hd] at h2; cases h2
  | int h1 h2 => rw [hi] at h1; obtain rfl := Option.some.inj h1; rw [hd] at h2; cases h2
  | string h1 h2 hs => exact ⟨_, rfl, hs⟩
  | slice h1 h2 => rw [hi] at h1; obtain rfl := Option.some.inj h1; rw [hd] at h2; cases h2
  | struct h1 h2 => rw [hi] at h1; obtain rfl := Option.some.inj h1; rw [hd] at h2; cases h2
  | array h1 h2 => rw [hi] at h1; obtain rfl := Option.some.inj h1; rw [hd] at h2; cases h2
theorem typed_slice {e : TypeId} {j : TI} (hi : D.get t = some i) (hd : i.desc = .slice e) (hj : D.get e = some j) (h : Typed D t l) : ∃ es, l = [.sl .sh es] ∧ (∀ c ∈ es, Typed D e c) ∧ (∀ c ∈ es, c.length = j.size) ∧ es.length * j.bytes ≤ 140737488351232 ∧ es.length ≤ maxLen := by
  cases h with
  | bool h1 h2 => rw [hi] at h1; obtain rfl := Option.some.inj h1; rw [hd] at h2; cases h2
  | int h1 h2 => rw [hi] at h1; obtain rfl := Option.some.inj h1; rw [hd] at h2; cases h2
  | string h1 h2 => rw [hi] at h1; obtain rfl := Option.some.inj h1; rw [hd] at h2; cases h2
  | slice h1 h2 h3 h4 h5 h6 h7 =>
    rw [hi] at h1; obtain rfl := Option.some.inj h1; rw [hd] at h2; cases h2
    rw [hj] at h3; obtain rfl := Option.some.inj h3
    exact ⟨_, rfl, h4, h5, h6, h7⟩
  | struct h1 h2 => rw [hi] at h1; obtain rfl := Option.some.inj h1; rw [hd] at h2; cases h2
  | array h1 h2 => rw [hi] at h1; obtain rfl := Option.some.inj h1; rw [hd] at h2; cases h2
theorem typed_struct {fs : Array Field} (hi : D.get t = some i) (hd : i.desc = .struct fs) (h : Typed D t l) : l.length = i.size ∧ ∀ (k : Nat) f j, fs.toList[k]? = some f → D.get f.type = some j → Typed D f.type ((l.drop f.offset).take j.size) := by
  cases h with
  | bool h1 h2 => rw [hi] at h1; obtain rfl := Option.some.inj h1; rw [hd] at h2; cases h2
  | int h1 h2 => rw [hi] at h1; obtain rfl := Option.some.inj h1; rw [hd] at h2; cases h2
  | string h1 h2 => rw [hi] at h1; obtain rfl := Option.some.inj h1; rw [hd] at h2; cases h2
  | slice h1 h2 => rw [hi] at h1; obtain rfl := Option.some.inj h1; rw [hd] at h2; cases h2
  | struct h1 h2 h3 h4 => rw [hi] at h1; obtain rfl := Option.some.inj h1; rw [hd] at h2; cases h2; exact ⟨h3, h4⟩
  | array h1 h2 => rw [hi] at h1; obtain rfl := Option.some.inj h1; rw [hd] at h2; cases h2
end

/-- Lists of typed things, each the image of something. -/
theorem typed_all {α : Type} {D : Tab} {e : TypeId} {f : α → List LV} {es : List (List LV)} (h : ∀ c ∈ es, Typed D e c) (hf : ∀ c, Typed D e c → ∃ x, c = f x) : ∃ xs : List α, es = xs.map f := by
  induction es with
  | nil => exact ⟨[], rfl⟩
  | cons c es ih =>
    obtain ⟨xs, rfl⟩ := ih fun c hc => h c (List.mem_cons_of_mem _ hc)
    obtain ⟨x, rfl⟩ := hf c (h c (by simp))
    exact ⟨x :: xs, rfl⟩

/-- The context of a law's call. -/
abbrev G0 (P : Program) (W : World) : Ctx := { P := P, base := W.heap.size, W0 := W }
end Go.Proofs.Ytkjbdldjfjkneaa.LF
