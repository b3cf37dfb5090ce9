/- What a call returned, frozen: its slices that lead into new boxes become rows that stay. -/
import Derived.Test.YtndcdmmmfplbbaaLRw
set_option linter.unusedVariables false
set_option linter.unusedSimpArgs false
namespace Go.Proofs.Ytndcdmmmfplbbaa.LF
open Go.RowKit
set_option linter.unusedVariables false

/-- The same memory and value, told in another way. -/
def Frz (S : LS) (r : TV) (S2 : LS) (r2 : TV) : Prop := ∀ (G : Ctx) K w v, Inv G S K w → RepT G w K r v → ∃ K2, Inv G S2 K2 w ∧ RepT G w K2 r2 v ∧ Ext K w K2 w
theorem Frz.refl (S : LS) (r : TV) : Frz S r S r := fun G K w v h1 h2 => ⟨K, h1, h2, .refl _ _⟩
theorem Frz.trans {S S2 S3 : LS} {r r2 r3 : TV} (h : Frz S r S2 r2) (k : Frz S2 r2 S3 r3) : Frz S r S3 r3 := fun G K w v h1 h2 => by
  obtain ⟨K2, a1, a2, a3⟩ := h G K w v h1 h2
  obtain ⟨K3, b1, b2, b3⟩ := k G K2 w v a1 a2
  exact ⟨K3, b1, b2, a3.trans b3⟩
theorem LCalls.frz {G : Ctx} {f : FuncId} {args : List TV} {Q Q' : TV → LS → Prop} {S : LS} (h : LCalls G f args Q S) (hq : ∀ r S', Q r S' → ∃ r2 S2, Frz S' r S2 r2 ∧ Q' r2 S2) : LCalls G f args Q' S :=
  fun K w vals h1 h2 => (h K w vals h1 h2).mono fun e w' ⟨r, v, S', K', e1, e2, e3, e4, e5⟩ => by
    obtain ⟨r2, S2, f1, f2⟩ := hq r S' e5
    obtain ⟨K2, g1, g2, g3⟩ := f1 G K' w' v e3 e2
    exact ⟨r2, v, S2, K2, e1, g2, g1, e4.trans g3, f2⟩

/-- One cell of what was returned. -/
theorem Frz.cell {α : Type} {f : α → List LV} {z : Nat} (hz : ∀ x, (f x).length = z) {S : LS} {X : LV} {l : List α} (h : SlAt f z S X l) (A B : List LV) (rest : List TV) :
    ∃ S2, Frz S (.tup (.agg (A ++ X :: B) :: rest)) S2 (.tup (.agg (A ++ .sl .sh (l.map f) :: B) :: rest)) ∧ Frz S (.agg (A ++ X :: B)) S2 (.agg (A ++ .sl .sh (l.map f) :: B)) ∧
      (∀ c cs, S.box c = some cs → blockOf X ≠ some c → S2.box c = some cs) ∧ (∀ b x, S.row b = some x → S2.row b = some x) ∧ (∀ b x, S.obj b = some x → S2.obj b = some x) ∧ S.top ≤ S2.top := by
  have hA : ∀ (G : Ctx) (S2 : LS) K w v K2, RepT G w K (.agg (A ++ X :: B)) v → Ext K w K2 w → (∀ u, Rep G w K X u → Rep G w K2 (.sl .sh (l.map f)) u) → RepT G w K2 (.agg (A ++ .sl .sh (l.map f) :: B)) v := by
    intro G S2 K w v K2 hv hx hX
    obtain ⟨vs, rfl, h1, h2⟩ := hv.agg_inv
    refine .agg _ vs (by simpa using h1) fun j x u hj hu => ?_
    rcases Nat.lt_trichotomy j A.length with h3 | h3 | h3
    · rw [List.getElem?_append_left h3] at hj
      exact (h2 j x u (by rw [List.getElem?_append_left h3]; exact hj) hu).mono hx
    · subst h3
      rw [List.getElem?_append_right (Nat.le_refl _), Nat.sub_self] at hj
      obtain rfl : LV.sl .sh (l.map f) = x := by simpa using hj
      exact hX u (h2 A.length X u (by rw [List.getElem?_append_right (Nat.le_refl _), Nat.sub_self]; rfl) hu)
    · obtain ⟨q, rfl⟩ : ∃ q, j = A.length + (q + 1) := ⟨j - A.length - 1, by omega⟩
      rw [List.getElem?_append_right (by omega), show A.length + (q + 1) - A.length = q + 1 by omega, List.getElem?_cons_succ] at hj
      refine (h2 (A.length + (q + 1)) x u ?_ hu).mono hx
      rw [List.getElem?_append_right (by omega), show A.length + (q + 1) - A.length = q + 1 by omega, List.getElem?_cons_succ]; exact hj
  have hT : ∀ (G : Ctx) (S2 : LS) K w v K2, RepT G w K (.tup (.agg (A ++ X :: B) :: rest)) v → Ext K w K2 w → (∀ u, Rep G w K X u → Rep G w K2 (.sl .sh (l.map f)) u) → RepT G w K2 (.tup (.agg (A ++ .sl .sh (l.map f) :: B) :: rest)) v := by
    intro G S2 K w v K2 hv hx hX
    obtain ⟨vs, rfl, h1, h2⟩ := hv.tup_inv
    refine .tup _ vs (by simpa using h1) fun j x u hj hu => ?_
    cases j with
    | zero =>
      obtain rfl : TV.agg (A ++ .sl .sh (l.map f) :: B) = x := by simpa using hj
      exact hA G S2 K w u K2 (h2 0 _ u rfl hu) hx hX
    | succ j => exact (h2 (j + 1) x u (by simpa using hj) hu).mono hx
  cases h with
  | nil =>
    have hX : ∀ (G : Ctx) K w u, Rep G w K (.sl .nil []) u → Rep G w K (.sl .sh (([] : List α).map f)) u := fun G K w u hu => hu.share
    exact ⟨S, fun G K w v h1 h2 => ⟨K, h1, hT G S K w v K h2 (.refl _ _) (hX G K w), .refl _ _⟩, fun G K w v h1 h2 => ⟨K, h1, hA G S K w v K h2 (.refl _ _) (hX G K w), .refl _ _⟩, fun c cs h _ => h, fun _ _ h => h, fun _ _ h => h, Nat.le_refl _⟩
  | row r c _ rest' hr =>
    have hcap := hr.cap
    have hpart : Part (cellsR f l ++ rest') 0 c z (l.map f) := ⟨fun e he => by
        obtain ⟨x, _, rfl⟩ := List.mem_map.1 he
        exact hz x, by rw [List.drop_zero, List.length_map, ← cellsR_length hz, List.take_left]; rfl, by rw [Nat.zero_add, List.length_map, ← cellsR_length hz, List.length_append]; exact Nat.le_add_right _ _, by rw [List.length_map]; exact hcap⟩
    have key : ∀ (G : Ctx) K w, Inv G S K w → ∃ K2, Inv G (S.delBox r) K2 w ∧ Ext K w K2 w ∧ ∀ u, Rep G w K (rsl r 0 l.length c) u → Rep G w K2 (.sl .sh (l.map f)) u := fun G K w hi => by
      obtain ⟨j1, j2⟩ := hi.freeze hr.box
      refine ⟨_, j1, j2, fun u hu => ?_⟩
      have e := (RepT.one hu).flat
      rw [e]
      have := hpart.rep (G' := G) hi hr.box j2 (fun j hj => .inr ⟨rfl, hj⟩) rfl
      rwa [List.length_map] at this
    refine ⟨S.delBox r, fun G K w v h1 h2 => ?_, fun G K w v h1 h2 => ?_, fun d cs hd hne => ?_, fun _ _ h => h, fun _ _ h => h, Nat.le_refl _⟩
    · obtain ⟨K2, a1, a2, a3⟩ := key G K w h1
      exact ⟨K2, a1, hT G (S.delBox r) K w v K2 h2 a2 a3, a2⟩
    · obtain ⟨K2, a1, a2, a3⟩ := key G K w h1
      exact ⟨K2, a1, hA G (S.delBox r) K w v K2 h2 a2 a3, a2⟩
    · exact (box_del_ne S (fun e => hne (by rw [e]; rfl))).trans hd
end Go.Proofs.Ytndcdmmmfplbbaa.LF
