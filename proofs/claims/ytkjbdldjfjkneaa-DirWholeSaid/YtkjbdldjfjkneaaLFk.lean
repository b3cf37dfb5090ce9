/- The frame round a law: from a contract over logical values to the call. -/
import Derived.Test.YtkjbdldjfjkneaaLFj
set_option linter.unusedVariables false
set_option linter.unusedSimpArgs false
namespace Go.Proofs.Ytkjbdldjfjkneaa.LF
open Go.RowKit
set_option linter.unusedVariables false

/-- What a slot holds of an argument. -/
def argTV (i : TI) (l : List LV) : TV := bif i.isAgg then .agg l else match l with
  | [x] => .one x
  | _ => .any

theorem arg_in {H : Type} {enc : TypeId × Value → H} {G : Ctx} {w : World} {D : Tab} (hD : TabOK G.P D) {base b0 : Nat} {r : Reach} {spare : Nat → Bool} {held : Bool} {n : Nat} {t : TypeId} {i : TI} {v : Value} {d : DataW H} {ps : List MemPlace} (hi : D.get t = some i) (hok : tyOK D n t = true)
    (h : DataW.Trod enc G.P w base spare held t v d ps) (hv : Value.okWide G.P w r b0 t v) (hw : (d.weights G.P t).all (· ≤ reachBytes) = true) : ∃ l, Typed D t l ∧ RepT G w (allCells w) (argTV i l) v := by
  obtain ⟨fuel, h⟩ := h
  obtain ⟨l, h1, h2, h3⟩ := reads_of hD fuel n t _ d ps hok h hw
  refine ⟨l, h1, ?_⟩
  have hu := (hD.get hi).und
  have hagg : i.isAgg = true → RepT G w (allCells w) (.agg l) v := by
    intro ha
    unfold Value.okWide at hv
    rw [hu] at hv
    unfold TI.isAgg at ha
    have : ∃ cs, v = .agg cs := by
      split at ha
      · rename_i hd; rw [hd] at hv; obtain ⟨cs, e, _⟩ := hv; exact ⟨cs, e⟩
      · rename_i hd; rw [hd] at hv; obtain ⟨cs, e, _⟩ := hv; exact ⟨cs, e⟩
      · cases ha
    obtain ⟨cs, rfl⟩ := this
    exact .agg l cs (by simpa [Value.cells] using h2.symm) (fun j x u hj hu => h3 j x u hj (by simpa [Value.cells] using hu))
  have hone : ∀ x u, l = [x] → v.cells = #[u] → v = u → RepT G w (allCells w) (.one x) v := by
    intro x u hl hc hvu
    subst hl
    exact .one (h3 0 x v rfl (by rw [hc, ← hvu]; rfl))
  unfold argTV
  cases h1 with
  | bool hi' hd b =>
    rw [hi] at hi'
    obtain rfl := Option.some.inj hi'
    have : i.isAgg = false := by simp [TI.isAgg, hd]
    rw [this]
    unfold Value.okWide Cell.okWide Cell.ok at hv
    rw [hu, hd] at hv
    cases v <;> first | exact hone _ _ rfl rfl rfl | (simp at hv; done)
  | @int _ _ k m hi' hd wf =>
    rw [hi] at hi'
    obtain rfl := Option.some.inj hi'
    have : i.isAgg = false := by simp [TI.isAgg, hd]
    rw [this]
    unfold Value.okWide Cell.okWide Cell.ok at hv
    rw [hu, hd] at hv
    cases v <;> first | exact hone _ _ rfl rfl rfl | (simp at hv; done)
  | string hi' hd hs =>
    rw [hi] at hi'
    obtain rfl := Option.some.inj hi'
    have : i.isAgg = false := by simp [TI.isAgg, hd]
    rw [this]
    unfold Value.okWide Cell.okWide Cell.ok at hv
    rw [hu, hd] at hv
    cases v <;> first | exact hone _ _ rfl rfl rfl | (simp at hv; done)
  | slice hi' hd hj hall hsz hlen hl =>
    rw [hi] at hi'
    obtain rfl := Option.some.inj hi'
    have : i.isAgg = false := by simp [TI.isAgg, hd]
    rw [this]
    unfold Value.okWide Cell.okWide Cell.ok at hv
    rw [hu, hd] at hv
    cases v <;> first | exact hone _ _ rfl rfl rfl | (simp at hv; done)
  | struct hi' hd hl hf =>
    rw [hi] at hi'
    obtain rfl := Option.some.inj hi'
    have : i.isAgg = true := by simp [TI.isAgg, hd]
    rw [this]
    exact hagg this
  | array hi' hd hj hl hf =>
    rw [hi] at hi'
    obtain rfl := Option.some.inj hi'
    have : i.isAgg = true := by simp [TI.isAgg, hd]
    rw [this]
    exact hagg this

theorem ArgsRel.nil {G : Ctx} {w : World} {K : Kept} : ArgsRel G w K [] #[] := ⟨rfl, by simp⟩

theorem ArgsRel.cons {G : Ctx} {w : World} {K : Kept} {T : TV} {Ts : List TV} {v : Value} {vs : List Value} (h : RepT G w K T v) (k : ArgsRel G w K Ts vs.toArray) : ArgsRel G w K (T :: Ts) (v :: vs).toArray := by
  refine ⟨by have := k.1; simpa using this, fun i x u hx hu => ?_⟩
  cases i with
  | zero =>
    obtain rfl : T = x := by simpa using hx
    obtain rfl : v = u := by simpa using hu
    exact h
  | succ i => exact k.2 i x u (by simpa using hx) (by simpa using hu)

def LS.none (n : Nat) : LS := { box := fun _ => Option.none, row := fun _ => Option.none, obj := fun _ => Option.none, top := n }

theorem Inv.none (P : Program) (W : World) : Inv { P := P, base := W.heap.size, W0 := W } (LS.none W.heap.size) (allCells W) W where
  below := Below.refl _ _
  base := Nat.le_refl _
  live := fun b j h => h
  box := fun b cs h => by cases h
  row := fun b T n h => by cases h
  obj := fun b o h => by cases h
  top := Nat.le_refl _
  since := trivial

/-- A law's contract over logical values is its contract. -/
theorem law_calls {P : Program} {f : FuncId} {Ts : List TV} {args : Array Value} {W : World} (h : ∀ (G : Ctx) (S : LS), G.P = P → LCalls G f Ts (fun r _ => r = .one (.v (.bool true))) S)
    (ha : ArgsRel { P := P, base := W.heap.size, W0 := W } W (allCells W) Ts args) : Calls P f args W fun e W' => e = .returned (.bool true) ∧ Below W.heap.size W W' := by
  refine (h { P := P, base := W.heap.size, W0 := W } (LS.none W.heap.size) rfl (allCells W) W args (Inv.none P W) ha).mono fun e W' hp => ?_
  obtain ⟨r, v, S', K', rfl, h2, h3, h4, rfl⟩ := hp
  exact ⟨by rw [h2.flat], h3.below⟩

/-- A contract over plain values, as one over logical values. -/
theorem LFun.of_calls {G : Ctx} {f : FuncId} {args : List TV} {vals : Array Value} {r : TV} {v : Value} (hv : ∀ w K, ArgsRel G w K args vals) (hu : ∀ w K vals', ArgsRel G w K args vals' → vals' = vals)
    (hr : ∀ w K, RepT G w K r v) (h : ∀ w, Calls G.P f vals w fun e w' => e = .returned v ∧ Below w.heap.size w w') : LFun G f args r := by
  intro S K w vals' hi ha
  rw [hu w K vals' ha]
  refine (h w).mono fun e w' hp => ?_
  obtain ⟨rfl, hb⟩ := hp
  have hblk : ∀ b, b < w.heap.size → w'.heap[b]? = w.heap[b]? := fun b hb' => hb.block b hb'
  have hx : Ext K w K w' := by
    refine ⟨fun b j hk => ⟨hk, ?_⟩, fun b s hs => ?_, hb.size, fun b hm => ?_⟩
    · obtain ⟨u, hu⟩ := hi.live b j hk
      exact World.cell?_of_block (a := ⟨b, j, none⟩) (hblk b (World.block_lt_of_cell? w _ hu))
    · have hlt : b < w.heap.size := by
        rcases Nat.lt_or_ge b w.heap.size with h' | h'
        · exact h'
        · simp [World.shape?, Array.getElem?_eq_none h'] at hs
      simp only [World.shape?, hblk b hlt] at hs ⊢
      exact hs
    · rw [hblk b (Array.getElem?_eq_some_iff.1 hm).1]; exact hm
  refine ⟨r, v, S, K, rfl, hr _ _, ⟨?_, ?_, fun b j hk => ?_, fun b cs hbx => ?_, fun b T n hrw => ?_, fun b o hob => ?_, ?_, G.stable _ _ _ _ hi.since hx⟩, hx, rfl, rfl⟩
  · exact hi.below.trans (hb.mono hi.base)
  · exact Nat.le_trans hi.base hb.size
  · rw [(hx.kept b j hk).2]; exact hi.live b j hk
  · obtain ⟨h1, h2, c, T, h3, h4, h5, h6⟩ := hi.box b cs hbx
    exact ⟨h1, h2, c, T, by rw [hblk b (Array.getElem?_eq_some_iff.1 h3).1]; exact h3, h4, fun j x u hj hu => (h5 j x u hj hu).mono hx, h6⟩
  · obtain ⟨h1, h2, h3, c, h4, h5⟩ := hi.row b T n hrw
    exact ⟨h1, h2, h3, c, by rw [hblk b (Array.getElem?_eq_some_iff.1 h4).1]; exact h4, h5⟩
  · obtain ⟨h1, h2, h3, h4⟩ := hi.obj b o hob
    exact ⟨h1, h2, by rw [hblk b (Array.getElem?_eq_some_iff.1 h3).1]; exact h3, h4⟩
  · exact Nat.le_trans hi.top hb.size

end Go.Proofs.Ytkjbdldjfjkneaa.LF
