/- Plain facts on words: what is right has no number twice. -/
import Derived.Test.YtffeegpjnibdnaaPermM
set_option linter.unusedVariables false
set_option linter.unusedSimpArgs false
namespace Go.Proofs.Ytffeegpjnibdnaa
open Go.RowKit
set_option linter.unusedVariables false

theorem php : ∀ (n : Nat) (l : List Nat), l.length = n → (∀ x, x < n → x ∈ l) → l.Nodup ∧ ∀ x ∈ l, x < n
  | 0, l, hl, _ => by
    obtain rfl := List.length_eq_zero_iff.1 hl
    simp
  | n + 1, l, hl, h => by
    have hm := h n (by omega)
    have hp := List.perm_cons_erase hm
    have ih := php n (l.erase n) (by rw [List.length_erase_of_mem hm]; omega) (fun x hx => (List.mem_erase_of_ne (by omega)).2 (h x (by omega)))
    refine ⟨hp.nodup_iff.2 (List.nodup_cons.2 ⟨fun e => absurd (ih.2 n e) (by omega), ih.1⟩), fun x hx => ?_⟩
    rcases List.mem_cons.1 (hp.mem_iff.1 hx) with rfl | h1
    · omega
    · have := ih.2 x h1; omega
theorem nodup_len : ∀ (n : Nat) (l : List Nat), l.Nodup → (∀ x ∈ l, x < n) → l.length ≤ n
  | 0, l, _, h => by
    cases l with
    | nil => simp
    | cons a r => exact absurd (h a (by simp)) (by omega)
  | n + 1, l, hn, h => by
    by_cases hm : n ∈ l
    · have ih := nodup_len n (l.erase n) (hn.erase _) (fun x hx => by
        have h1 := h x (List.mem_of_mem_erase hx)
        have h2 : x ≠ n := fun e => by subst e; exact absurd hx (hn.not_mem_erase)
        omega)
      rw [List.length_erase_of_mem hm] at ih
      omega
    · have ih := nodup_len n l hn (fun x hx => by
        have h1 := h x hx
        have h2 : x ≠ n := fun e => hm (e ▸ hx)
        omega)
      omega
theorem rt_parts (p : Nat) : Rt (slots p) ↔ (slots p).Nodup ∧ ∀ x ∈ slots p, x < 15 := by
  have hl := slots_length p
  constructor
  · intro h; exact php 15 _ hl h
  · rintro ⟨h1, h2⟩ x hx
    apply Classical.byContradiction
    intro hn
    have := nodup_len 15 (x :: slots p) (List.nodup_cons.2 ⟨hn, h1⟩) (fun y hy => by
      rcases List.mem_cons.1 hy with rfl | h3
      · exact hx
      · exact h2 y h3)
    simp [hl] at this
end Go.Proofs.Ytffeegpjnibdnaa
