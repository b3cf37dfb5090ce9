/- Walks: a slice expression with three parts, of a slice whose cells stay. -/
import Derived.Test.YtjcpcgneghanfaaLSl
set_option linter.unusedVariables false
set_option linter.unusedSimpArgs false
namespace Go.Proofs.Ytjcpcgneghanfaa.LF
open Go.RowKit
/-- A part of a slice whose cells stay, with a bound for its room. -/
theorem LVal.slice3Sl {G : Ctx} {D : Tab} (hD : TabOK G.P D) {o : Oper} {T : Nat → TV} {S : LS} {t e : TypeId} {x : Operand} {lo hi : Option Operand} {mx : Operand} {k : IntKind} {w0 : Own} {es : List (List LV)} {l h m : Int} {i j : TI} (ho : o.op = .slice t x lo hi (some mx))
    (hx : lev T x = .one (.sl w0 es)) (hi' : D.get t = some i) (hd : i.desc = .slice e) (hj : D.get e = some j) (el : bnd T 0 lo = some l) (hs : hi.isSome = true) (eh : bnd T es.length hi = some h) (em : lev T mx = .one (.v (.int k m))) (h0 : 0 ≤ l) (h1 : l ≤ h) (h2 : h ≤ m) (h3 : m ≤ es.length) (hsz0 : Nat.blt 0 j.size = true) (hsz : ∀ c ∈ es, c.length = j.size) :
    LVal G o T S (.one (.sl .sh ((es.drop l.toNat).take (h - l).toNat))) :=
  .of_run fun K w ac hi'' hr => by
    have r1 := hr x (by rw [ho]; simp [Op.operands])
    have rm := hr mx (by rw [ho]; simp [Op.operands])
    rw [hx] at r1
    rw [em] at rm
    have e1 := (hD.get hi').und
    rw [hd] at e1
    have rlo : ∀ x, lo = some x → RepT G w K (lev T x) (ac.eval x) := fun x hx => hr x (by rw [ho, hx]; simp [Op.operands])
    have rhi : ∀ x, hi = some x → RepT G w K (lev T x) (ac.eval x) := fun x hx => hr x (by rw [ho, hx]; simp [Op.operands])
    have hex : ∀ v, (Instr.slice t (ac.eval x) (lo.map ac.eval) (hi.map ac.eval) (some (ac.eval mx))).run G.P w = .ok v w → (execOp ac.eval o).run G.P w = .ok (.value v) w := fun v h => by
      have h3 := sliceAt_slice (w := w) e1 (ac.eval x) (lo.map ac.eval) (hi.map ac.eval) (some (ac.eval mx))
      simp only [execOp, ho, Sem.run_bind, Option.map_some, h3, h, Result.andThen_ok, Sem.run_pure]
    have r2 := r1.of_one
    by_cases hne : es = []
    · subst hne
      have hl : l = 0 ∧ h = 0 ∧ m = 0 := by simp at h3; omega
      obtain ⟨rfl, rfl, rfl⟩ := hl
      have hv : ∃ a cap, ac.eval x = .slice a 0 cap := by
        generalize ac.eval x = v at r2
        cases r2 with
        | nil => exact ⟨none, 0, rfl⟩
        | emp a cap => exact ⟨a, cap, rfl⟩
        | row _ _ b off cap z c => exact ⟨_, _, rfl⟩
      obtain ⟨a, cap, hv⟩ := hv
      have hb := run_bounds3 (isS := true) (cap := cap) rlo rhi rm.flat el hs eh (by omega) (by omega) (by omega) (by omega)
      refine ⟨.slice a 0 0, hex _ ?_, .one (by simpa using Rep.emp _ _)⟩
      simp only [List.length_nil] at hb
      simp [hv, Instr.slice, run_underlying e1, hb, run_sizeOf' (hD.get hj)]
    · have hsz' : 0 < j.size := by simpa [Nat.blt_eq] using hsz0
      obtain ⟨b, off, cap, vs, f1, f2, f3, f4, f5⟩ := r2.flat hsz' hsz hne
      have hb := run_bounds3 (isS := true) (cap := cap) rlo rhi rm.flat el hs eh h0 h1 h2 (by omega)
      obtain ⟨l', rfl⟩ : ∃ l' : Nat, l = l' := ⟨l.toNat, by omega⟩
      obtain ⟨h', rfl⟩ : ∃ h' : Nat, h = h' := ⟨h.toNat, by omega⟩
      obtain ⟨m', rfl⟩ : ∃ m' : Nat, m = m' := ⟨m.toNat, by omega⟩
      have e0 : ((h' : Int) - (l' : Int)).toNat = h' - l' := by omega
      rw [e0, Int.toNat_natCast]
      have hlen : ((es.drop l').take (h' - l')).length = h' - l' := by simp; omega
      refine ⟨.slice (if m' = l' then some ⟨b, off, none⟩ else some ⟨b, off + l' * j.size, none⟩) (h' - l') (m' - l'), hex _ ?_, .one ?_⟩
      · simp only [f1, Instr.slice, Sem.run_bind, run_underlying e1, Result.andThen_ok, hb, run_sizeOf' (hD.get hj), Sem.run_pure, Int.toNat_natCast, Option.map_some, add_off]
      · by_cases hc : m' = l'
        · rw [if_pos hc]
          have : (es.drop l').take (h' - l') = [] := List.length_eq_zero_iff.1 (by omega)
          rw [this]
          rw [show h' - l' = 0 by omega]
          exact .emp _ _
        · rw [if_neg hc]
          have hfl : Flat G w K j.size ((es.drop l').take (h' - l')) ((vs.drop (l' * j.size)).take ((h' - l') * j.size)) := by
            refine ⟨?_, fun e he => hsz e (List.mem_of_mem_drop (List.mem_of_mem_take he)), fun p q x hp => ?_⟩
            · rw [hlen, List.length_take, List.length_drop, f3.len]
              apply Nat.min_eq_left
              rw [← Nat.sub_mul]
              exact Nat.mul_le_mul_right _ (by omega)
            · have heach : ∀ e ∈ (es.drop l').take (h' - l'), e.length = j.size := fun e he => hsz e (List.mem_of_mem_drop (List.mem_of_mem_take he))
              obtain ⟨c1, c2⟩ := cellOf_lt heach hp
              rw [hlen] at c1
              have hp' : cellOf es (l' + p) q = some x := by
                unfold cellOf at hp ⊢
                rw [List.getElem?_take, if_pos c1, List.getElem?_drop] at hp
                exact hp
              obtain ⟨v, g1, g2⟩ := f3.rep _ _ x hp'
              refine ⟨v, ?_, g2⟩
              rw [List.getElem?_take, if_pos (lt_mul c1 c2), List.getElem?_drop]
              rw [Nat.add_mul, Nat.add_assoc] at g1
              exact g1
          have := Rep.ofFlat (o := .sh) (b := b) (off := off + l' * j.size) (cap := m' - l') hfl (by simp) (by omega) (fun q u hq => by
            rw [List.getElem?_take] at hq
            split at hq
            · rw [List.getElem?_drop] at hq
              have := f4 _ u hq
              rw [← Nat.add_assoc] at this
              exact this
            · cases hq) (by simp)
          rw [hlen] at this
          exact this
theorem LVal.takeMap3 {G : Ctx} {D : Tab} (hD : TabOK G.P D) {o : Oper} {T : Nat → TV} {S : LS} {t e : TypeId} {x hi mx : Operand} {w0 : Own} {α : Type} {xs : List α} {f : α → List LV} {k k' : IntKind} {n : Nat} {i j : TI} (ho : o.op = .slice t x none (some hi) (some mx))
    (hx : lev T x = .one (.sl w0 (xs.map f))) (hhi : lev T hi = .one (.v (.int k (n : Int)))) (hmx : lev T mx = .one (.v (.int k' (n : Int)))) (hi' : D.get t = some i) (hd : i.desc = .slice e) (hj : D.get e = some j) (h2 : n ≤ xs.length) (hsz0 : Nat.blt 0 j.size = true) (hsz : ∀ c ∈ xs, (f c).length = j.size) :
    LVal G o T S (.one (.sl .sh ((xs.take n).map f))) := by
  have := LVal.slice3Sl (S := S) hD ho hx hi' hd hj (l := 0) (h := (n : Int)) (m := (n : Int)) rfl rfl (by simp [bnd, hhi]) hmx (by omega) (by omega) (by omega) (by simp; omega) hsz0 (fun c hc => by
    obtain ⟨a, ha, rfl⟩ := List.mem_map.1 hc; exact hsz a ha)
  rw [show ((n : Int) - 0).toNat = n by omega, show (0 : Int).toNat = 0 from rfl, List.drop_zero, ← List.map_take] at this
  exact this
end Go.Proofs.Ytjcpcgneghanfaa.LF
