/- A row of events whose operations' writes are held as raw slices, so that a Go map may hold them; what they stand for is kept by the context. -/
import Derived.Test.YtandbjhedkgldaaQHa
import Derived.Test.YtandbjhedkgldaaLGb
namespace Go.Proofs.Ytandbjhedkgldaa.LF
open Go.RowKit H
set_option linter.unusedVariables false

/-- An event and its operation's slice of writes. -/
def evR (p : Ev × Value) : List LV := [uv p.1.kind, iv p.1.id, uv p.1.op.kind, sv p.1.op.key, sv p.1.op.val, sv p.1.op.old, bv p.1.op.had, bv p.1.op.after, .v p.2, iv p.1.ans.code, bv p.1.ans.found, sv p.1.ans.key, sv p.1.ans.val]
def opR (p : OpV × Value) : List LV := [uv p.1.kind, sv p.1.key, sv p.1.val, sv p.1.old, bv p.1.had, bv p.1.after, .v p.2]
/-- What the context keeps of them. -/
def StandsAt (P : Program) (res : List (Ev × Value)) (K : Kept) (w : World) : Prop := ∀ p ∈ res, ∀ G : Ctx, G.P = P → Rep G w K (.sl .sh (p.1.op.writes.map wrL)) p.2
structure Stands (G : Ctx) (res : List (Ev × Value)) : Prop where
  at_ : ∀ K w, G.since K w → StandsAt G.P res K w

theorem cellOf_map {α : Type} {f : α → List LV} {l : List α} {i j : Nat} {x : LV} (h : cellOf (l.map f) i j = some x) : ∃ hi : i < l.length, (f l[i])[j]? = some x := by
  unfold cellOf at h
  rw [List.getElem?_map] at h
  cases hq : l[i]? with
  | none => rw [hq] at h; cases h
  | some a =>
    rw [hq] at h
    obtain ⟨hi, e⟩ := List.getElem?_eq_some_iff.1 hq
    exact ⟨hi, by rw [e]; exact h⟩
theorem cellOf_of {α : Type} {f : α → List LV} {l : List α} {i j : Nat} {x : LV} (hi : i < l.length) (h : (f l[i])[j]? = some x) : cellOf (l.map f) i j = some x := by
  unfold cellOf
  rw [List.getElem?_map, List.getElem?_eq_getElem hi]; exact h

theorem evR_cell {p : Ev × Value} {j : Nat} {x : LV} (h : (evR p)[j]? = some x) : (j ≠ 8 ∧ (evL p.1)[j]? = some x) ∨ (j = 8 ∧ x = .v p.2) := by
  match j, h with
  | 0, h => exact .inl ⟨by decide, h⟩
  | 1, h => exact .inl ⟨by decide, h⟩
  | 2, h => exact .inl ⟨by decide, h⟩
  | 3, h => exact .inl ⟨by decide, h⟩
  | 4, h => exact .inl ⟨by decide, h⟩
  | 5, h => exact .inl ⟨by decide, h⟩
  | 6, h => exact .inl ⟨by decide, h⟩
  | 7, h => exact .inl ⟨by decide, h⟩
  | 8, h => exact .inr ⟨rfl, by simpa [evR] using h.symm⟩
  | 9, h => exact .inl ⟨by decide, h⟩
  | 10, h => exact .inl ⟨by decide, h⟩
  | 11, h => exact .inl ⟨by decide, h⟩
  | 12, h => exact .inl ⟨by decide, h⟩
  | n + 13, h => simp [evR] at h

theorem Rep.rawEv {G : Ctx} {w : World} {K : Kept} {l : List Ev} {v : Value} (h : Rep G w K (.sl .sh (l.map evL)) v) :
    ∃ res : List (Ev × Value), res.map Prod.fst = l ∧ Rep G w K (.sl .sh (res.map evR)) v ∧ (∀ p ∈ res, p.2.oneCell' = true) ∧ StandsAt G.P res K w := by
  generalize he : l.map evL = es at h
  generalize ho : Own.sh = o at h
  generalize hq : LV.sl o es = q at h
  cases h with
  | raw => cases hq
  | nil => cases hq; cases ho
  | emp a cap =>
    cases hq
    have : l = [] := by simpa using he
    subst this
    exact ⟨[], rfl, .emp a cap, by simp, by intro p hp; cases hp⟩
  | ptr => cases hq
  | row _ _ b off cap z c hn hcap hz hw hc hr =>
    cases hq
    subst ho he
    have hsl : ∀ (i : Nat) (hi : i < l.length), Rep G w K (.sl .sh (l[i].op.writes.map wrL)) (c i 8) := fun i hi => hr i 8 _ (cellOf_of hi rfl)
    have one : ∀ (i : Nat) (hi : i < l.length), (c i 8).oneCell' = true := fun i hi => by
      have := hsl i hi
      generalize c i 8 = u at this
      generalize (l[i].op.writes.map wrL) = ws at this
      cases this <;> rfl
    let res : List (Ev × Value) := (List.range l.length).map fun i => ((l[i]?).getD noEv', c i 8)
    have hlen : res.length = l.length := by simp [res]
    have hat : ∀ (i : Nat) (hi : i < res.length), res[i] = (l[i]'(by omega), c i 8) := fun i hi => by
      simp only [res, List.getElem_map, List.getElem_range]
      rw [List.getElem?_eq_getElem (by omega)]; rfl
    have hmem : ∀ p ∈ res, ∃ (i : Nat) (hi : i < l.length), p = (l[i], c i 8) := fun p hp => by
      obtain ⟨i, hi, e⟩ := List.getElem_of_mem hp
      exact ⟨i, by omega, by rw [← e, hat i hi]⟩
    refine ⟨res, ?_, ?_, ?_, ?_⟩
    · refine List.ext_getElem (by simp [hlen]) fun i h1 h2 => ?_
      rw [List.getElem_map, hat]
    · have : (l.map evL).length = (res.map evR).length := by simp [hlen]
      rw [this]
      refine .row .sh (res.map evR) b off cap z c (by simp) (by simpa [hlen] using hcap) ?_ (by simp) ?_ ?_
      · intro e hm
        obtain ⟨p, hp, rfl⟩ := List.mem_map.1 hm
        obtain ⟨i, hi, rfl⟩ := hmem p hp
        exact hz (evL l[i]) (List.mem_map_of_mem (List.getElem_mem hi))
      · intro i j x hx
        obtain ⟨hi, h2⟩ := cellOf_map hx
        rw [hat i hi] at h2
        rcases evR_cell h2 with ⟨_, h3⟩ | ⟨rfl, _⟩
        · exact hc i j x (cellOf_of (by omega) h3)
        · exact hc i 8 _ (cellOf_of (by omega) rfl)
      · intro i j x hx
        obtain ⟨hi, h2⟩ := cellOf_map hx
        rw [hat i hi] at h2
        rcases evR_cell h2 with ⟨_, h3⟩ | ⟨rfl, rfl⟩
        · exact hr i j x (cellOf_of (by omega) h3)
        · exact .raw _ (one i (by omega))
    · intro p hp
      obtain ⟨i, hi, rfl⟩ := hmem p hp
      exact one i hi
    · intro p hp G' e
      obtain ⟨i, hi, rfl⟩ := hmem p hp
      exact (hsl i hi).ctx e.symm
where noEv' : Ev := ⟨0, 0, noOp, noAns⟩

/-- The row of events comes second: a contract over its raw form serves. -/
theorem LCalls.rawEv {G : Ctx} {f : FuncId} {a : TV} {l : List Ev} {Q : TV → LS → Prop} {S : LS}
    (h : ∀ (G' : Ctx) (res : List (Ev × Value)), G'.P = G.P → res.map Prod.fst = l → (∀ p ∈ res, p.2.oneCell' = true) → Stands G' res → LCalls G' f [a, .one (.sl .sh (res.map evR))] Q S) :
    LCalls G f [a, .one (.sl .sh (l.map evL))] Q S := by
  intro K w vals hi ha
  obtain ⟨hs, hat⟩ := ha
  have hv : ∃ v0 v1, vals = #[v0, v1] := by
    obtain ⟨vals⟩ := vals
    match vals, hs with
    | [v0, v1], _ => exact ⟨v0, v1, rfl⟩
  obtain ⟨v0, v1, rfl⟩ := hv
  have h0 := hat 0 _ v0 rfl rfl
  have h1 := hat 1 _ v1 rfl rfl
  obtain ⟨res, e1, h2, h3, h4⟩ := (RepT.of_one h1).rawEv
  let G' : Ctx := { G with since := fun K w => G.since K w ∧ StandsAt G.P res K w, stable := fun K w K' w' hk hx => ⟨G.stable K w K' w' hk.1 hx, fun p hp G2 e => (hk.2 p hp G2 e).mono hx⟩ }
  refine (h G' res rfl e1 h3 ⟨fun K w hk => hk.2⟩ K w #[v0, v1] (Inv.ctx (G := G) (G' := G') rfl rfl rfl hi ⟨hi.since, h4⟩) ⟨rfl, fun i x v hx hv => ?_⟩).mono fun e w' ⟨r, v, S', K', g1, g2, g3, g4, g5⟩ => ⟨r, v, S', K', g1, RepT.ctx (G := G') (G' := G) rfl g2, Inv.ctx (G := G') (G' := G) rfl rfl rfl g3 g3.since.1, g4, g5⟩
  match i, hx, hv with
  | 0, hx, hv =>
    simp at hx hv; subst hx hv; exact RepT.ctx (G := G) (G' := G') rfl h0
  | 1, hx, hv =>
    simp at hx hv; subst hx hv; exact .one (Rep.ctx (G := G) (G' := G') rfl h2)
  | n + 2, hx, _ => simp at hx

/-- A raw operation read as what it stands for. -/
theorem LVal.stand {G : Ctx} {o : Oper} {T : Nat → TV} {S : LS} {p : OpV × Value} (h : LVal G o T S (.agg (opR p))) (hp : ∀ K w, G.since K w → Rep G w K (.sl .sh (p.1.writes.map wrL)) p.2) : LVal G o T S (.agg (opL p.1)) := by
  intro K w a hi hr
  refine upon_mono (fun _ _ hq => ?_) (fun _ _ _ h => h) (h K w a hi hr)
  obtain ⟨v, K', h1, h2, h3, h4⟩ := hq
  refine ⟨v, K', h1, ?_, h3, h4⟩
  obtain ⟨vs, rfl, g1, g2⟩ := h2.agg_inv
  refine .agg _ vs g1 fun j x v hj hv => ?_
  have g3 := hp _ _ h3.since
  match j, hj with
  | 0, hj => exact g2 0 x v hj hv
  | 1, hj => exact g2 1 x v hj hv
  | 2, hj => exact g2 2 x v hj hv
  | 3, hj => exact g2 3 x v hj hv
  | 4, hj => exact g2 4 x v hj hv
  | 5, hj => exact g2 5 x v hj hv
  | 6, hj =>
    have := g2 6 (.v p.2) v rfl hv
    cases this
    simp only [opL, List.getElem?_cons_succ, List.getElem?_cons_zero, Option.some.injEq] at hj
    subst hj; exact g3
  | n + 7, hj => simp [opL] at hj
end Go.Proofs.Ytandbjhedkgldaa.LF
