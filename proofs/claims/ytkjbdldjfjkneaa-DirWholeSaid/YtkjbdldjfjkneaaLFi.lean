/- The frame's rule for a range over a function. -/
import Derived.Test.YtkjbdldjfjkneaaLFk
import Derived.RangeFuncMany
set_option linter.unusedVariables false
set_option linter.unusedSimpArgs false
namespace Go.Proofs.Ytkjbdldjfjkneaa.LF
open Go.RowKit

/-- A call of yield, as the loop's round answers it. -/
def LYield (G : Ctx) (l : Nat) (args : List TV) (R : Bool → LS → Prop) (S : LS) : Prop :=
  ∀ K w vals, Inv G S K w → ArgsRel G w K args vals → ∃ fn tmps assign body, (Instr.yield l vals).run G.P w = .ok (.round l fn tmps assign body) w ∧
    RoundIn Fence.wide 0 G.P l fn tmps assign body w fun e w' => ∃ r S' K', e = .returned (.bool r) ∧ Inv G S' K' w' ∧ Ext K w K' w' ∧ R r S'

theorem LYield.mono {G : Ctx} {l : Nat} {args : List TV} {R R' : Bool → LS → Prop} {S : LS} (h : LYield G l args R S) (hr : ∀ r S, R r S → R' r S) : LYield G l args R' S := fun K w vals hi ha => by
  obtain ⟨fn, tmps, assign, body, h1, h2⟩ := h K w vals hi ha
  refine ⟨fn, tmps, assign, body, h1, h2.mono fun e w' hp => ?_⟩
  obtain ⟨r, S', K', e1, e2, e3, e4⟩ := hp
  exact ⟨r, S', K', e1, e2, e3, hr _ _ e4⟩

/-- The operation that calls yield, in the iterator's own frame. -/
theorem LStep.yield {G : Ctx} {n : Nat} {o : Oper} {Q : (Nat → TV) → LS → Prop} {T : Nat → TV} {S : LS} {f : Operand} {xs : List Operand} {ts : Array TypeId} {l : Nat} {args : List TV} {R : Bool → LS → Prop} {d : Nat}
    (ho : o.op = .call { callee := .value f, args := xs.toArray, argTypes := ts }) (hf : lev T f = .one (.v (.func (.yield l) #[] #[]))) (hx : xs.map (fun x => shTV (lev T x)) = args) (hd : o.dst = some d) (hn : Nat.blt d n = true)
    (h : LYield G l args R S) (hq : ∀ r S', R r S' → Q (upd T d (.one (.v (.bool r)))) S') : LStep G none n o Q T S := by
  intro m K w a hi hr hm
  have h1 := hr.eval f
  rw [hf] at h1
  have ha : ArgsRel G w K args (xs.map a.eval).toArray := by
    subst hx
    refine ⟨by simp, fun i x v hx' hv => ?_⟩
    rw [List.getElem?_map] at hx'
    rw [List.getElem?_toArray, List.getElem?_map] at hv
    cases hq : xs[i]? with
    | none => rw [hq] at hx'; simp at hx'
    | some y =>
      rw [hq] at hx' hv
      simp only [Option.map_some, Option.some.injEq] at hx' hv
      subst hx'; subst hv
      exact (hr.eval y).shTV
  obtain ⟨fn, tmps, assign, body, e1, e2⟩ := h K w _ hi ha
  refine ⟨fun f _ => trivial, ?_⟩
  have hrun : (o.semAt (fen none).round a.eval).run G.P w = .ok (.round l fn tmps assign body) w := by
    show (execOp a.eval o).run G.P w = _
    have := h1.flat
    simp [execOp, ho, resolve, this, Deferred.ofValue, invoke, e1]
  rw [hrun]
  refine ⟨fun hd => by simp [fen, Fence.wide] at hd, e2.mono fun e w' hp => ?_⟩
  obtain ⟨r, S', K', rfl, j1, j2, j3⟩ := hp
  refine ⟨upd T d (.one (.v (.bool r))), S', K', j1, ?_, by rw [put_defers]; exact hm.mono j2, j2, hq _ _ j3⟩
  have := (hr.mono j2).put (dst := o.dst) (r := .one (.v (.bool r))) (v := .bool r) (by rw [hd]; exact hn) (.raw rfl)
  rw [hd] at this ⊢
  exact this

theorem LOps.yield {G : Ctx} {n : Nat} {ops : Array Oper} {o : Oper} {os : List Oper} {Q : (Nat → TV) → LS → Prop} {T : Nat → TV} {S : LS} {f : Operand} {xs : List Operand} {ts : Array TypeId} {l : Nat} {args : List TV} {R : Bool → LS → Prop} {d : Nat}
    (ho : o.op = .call { callee := .value f, args := xs.toArray, argTypes := ts }) (hf : lev T f = .one (.v (.func (.yield l) #[] #[]))) (hx : xs.map (fun x => shTV (lev T x)) = args) (hg : wantedT ops T o = some true) (hd : o.dst = some d) (hn : Nat.blt d n = true)
    (h : LYield G l args R S) (hq : ∀ r S', R r S' → LOps G none n ops os Q (upd T d (.one (.v (.bool r)))) S') : LOps G none n ops (o :: os) Q T S :=
  .stepG hg (LStep.yield ho hf hx hd hn h hq)

/-- An iterator's contract: it yields these, one behind the other, or a first part of them. -/
def LIter (G : Ctx) (gf : FuncId) (lb : Array Value) (C : LS → Prop) (xs : List (List TV)) : Prop :=
  ∀ (l : Nat) (I Ix : Nat → LS → Prop) (S : LS), (∀ k S S', I k S → S.le S' → I k S') → (∀ k S S', Ix k S → S.le S' → Ix k S') → (∀ k S, I k S → C S) →
    (∀ k x S, xs[k]? = some x → I k S → LYield G l x (fun r S' => (r = true ∧ I (k + 1) S') ∨ (r = false ∧ Ix (k + 1) S')) S) → I 0 S →
    LCalls G gf (.one (.v (.func (.yield l) #[] #[])) :: lb.toList.map fun v => .one (.v v)) (fun _ S' => I xs.length S' ∨ ∃ k, k ≤ xs.length ∧ Ix k S') S

/-- The slots with a round's values in the loop's variables. -/
def setPs (T : Nat → TV) : List Tmp → List TV → (Nat → TV)
  | p :: ps, x :: xs => setPs (upd T p x) ps xs
  | _, _ => T

theorem RelT.setPs {G : Ctx} {w : World} {K : Kept} {n : Nat} : ∀ (ps : List Tmp) (args : List TV) (vals : List Value) (T : Nat → TV) (tmps : Array Value) (ds : List Deferred), ps.all (fun p => Nat.blt p n) = true → vals.length = args.length →
    (∀ (i : Nat) x v, args[i]? = some x → vals[i]? = some v → RepT G w K x v) → RelT G w K n T { tmps := tmps, defers := ds } → RelT G w K n (setPs T ps args) { tmps := (ps.zip vals).foldl (fun t (p, v) => t.setIfInBounds p v) tmps, defers := ds } := by
  intro ps
  induction ps with
  | nil => intro args vals T tmps ds _ _ _ h; cases args <;> exact h
  | cons p ps ih =>
    intro args vals T tmps ds hp hl ha h
    simp only [List.all_cons, Bool.and_eq_true] at hp
    cases args with
    | nil =>
      obtain rfl : vals = [] := List.length_eq_zero_iff.1 hl
      exact h
    | cons x args =>
      cases vals with
      | nil => simp at hl
      | cons v vals =>
        have h1 := h.put (dst := some p) (r := x) (v := v) hp.1 (ha 0 x v rfl rfl)
        exact ih args vals (upd T p x) (tmps.setIfInBounds p v) ds hp.2 (by simpa using hl) (fun i y u hy hu => ha (i + 1) y u hy hu) h1

def LS.setObj (S : LS) (b : Nat) (o : Obj) : LS := { S with obj := fun x => bif Nat.beq x b then some o else S.obj x, top := max S.top (b + 1) }
def LS.delObj (S : LS) (b : Nat) : LS := { S with obj := fun x => bif Nat.beq x b then Option.none else S.obj x }

/-- A loop's record is turned. -/
theorem Inv.putObj {G : Ctx} {S : LS} {K : Kept} {w : World} (h : Inv G S K w) {D : Nat} {o o' : Obj} (hB : G.base ≤ D) (hlt : D < w.heap.size) (ho : w.heap[D]? = some o) (hc : o.isCells = false) (hc' : o'.isCells = false) (hd : o' ≠ .deferred (some [])) (hod : o ≠ .deferred (some [])) :
    Inv G (S.setObj D o') K (w.putObj D o') ∧ Ext K w K (w.putObj D o') := by
  have hk := h.notMark ho hc
  have hother : ∀ b, b ≠ D → (w.putObj D o').heap[b]? = w.heap[b]? := fun b hb => World.putObj_heap_other hb
  have hsame : (w.putObj D o').heap[D]? = some o' := World.putObj_heap_same hlt
  have hx : Ext K w K (w.putObj D o') := by
    refine ⟨fun b j hb => ⟨hb, World.cell?_of_block (a := ⟨b, j, Option.none⟩) (hother b fun e => hk j (by rw [← e]; exact hb))⟩, fun b s hs => ?_, by simp, fun b hb => ?_⟩
    · have : b ≠ D := fun e => by
        subst e
        simp only [World.shape?, ho] at hs
        cases o <;> first | (simp at hs; done) | (simp [Obj.isCells] at hc)
      simp only [World.shape?, hother b this] at hs ⊢
      exact hs
    · have : b ≠ D := fun e => by subst e; rw [ho] at hb; exact hod (by simpa using hb)
      rw [hother b this]; exact hb
  refine ⟨⟨?_, ?_, fun b j hb => ?_, fun b cs hb => ?_, fun b T n hb => ?_, fun b o2 hb => ?_, ?_, G.stable _ _ _ _ h.since hx⟩, hx⟩
  · exact h.below.trans ⟨rfl, rfl, rfl, by simp, fun k hk' => hother k (by omega)⟩
  · simpa using h.base
  · rw [(hx.kept b j hb).2]; exact h.live b j hb
  · have hb' : S.box b = some cs := hb
    obtain ⟨h1, h2, c, T, h3, h4, h5, h6⟩ := h.box b cs hb'
    have : b ≠ D := fun e => by
      subst e
      rw [ho] at h3
      obtain rfl : o = Obj.cells c T (0, 0) := by simpa using h3
      simp [Obj.isCells] at hc
    exact ⟨h1, by simp only [LS.setObj]; omega, c, T, by rw [hother b this]; exact h3, h4, fun j x v hj hv => (h5 j x v hj hv).mono hx, h6⟩
  · have hb' : S.row b = some (T, n) := hb
    obtain ⟨h1, h2, h3, c, h4, h5⟩ := h.row b T n hb'
    have : b ≠ D := fun e => by
      subst e
      rw [ho] at h4
      obtain rfl : o = Obj.cells c T (0, 0) := by simpa using h4
      simp [Obj.isCells] at hc
    exact ⟨h1, by simp only [LS.setObj]; omega, h3, c, by rw [hother b this]; exact h4, h5⟩
  · simp only [LS.setObj] at hb ⊢
    rcases beq_cases b D (some o') (S.obj b) with ⟨rfl, e⟩ | ⟨hne, e⟩
    · rw [e] at hb
      obtain rfl : o' = o2 := by simpa using hb
      exact ⟨hB, by omega, hsame, hc', hd⟩
    · rw [e] at hb
      obtain ⟨h1, h2, h3, h4, h5⟩ := h.obj b o2 hb
      exact ⟨h1, by omega, by rw [hother b hne]; exact h3, h4, h5⟩
  · have := h.top
    simp only [LS.setObj, World.putObj_size]; omega

theorem setObj_obj (S : LS) (b : Nat) (o : Obj) : (S.setObj b o).obj b = some o := by simp [LS.setObj]

/-- A contract does not hang on what was before. -/
theorem Rep.ctx {G G' : Ctx} (hP : G.P = G'.P) {w : World} {K : Kept} {l : LV} {v : Value} (h : Rep G w K l v) : Rep G' w K l v := by
  induction h with
  | raw x h1 => exact .raw x h1
  | nil => exact .nil
  | emp a cap => exact .emp a cap
  | row o es b off cap z c hn hcap hz ho hc hr ih => exact .row o es b off cap z c hn hcap hz (by rw [← hP]; exact ho) hc ih
  | ptr l b off c h hr ih => exact .ptr l b off c h ih

theorem RepT.ctx {G G' : Ctx} (hP : G.P = G'.P) {w : World} {K : Kept} {l : TV} {v : Value} (h : RepT G w K l v) : RepT G' w K l v := by
  induction h with
  | one h => exact .one (h.ctx hP)
  | agg l vs hs h => exact .agg l vs hs fun j x v hj hv => (h j x v hj hv).ctx hP
  | tup l vs hs h ih => exact .tup l vs hs ih
  | ro l b off c h hr => exact .ro l b off c h fun j x hj => (hr j x hj).ctx hP
  | any v => exact .any v
  | when b r v h1 h0 ih => exact .when b r v ih h0

theorem RelT.ctx {G G' : Ctx} (hP : G.P = G'.P) {w : World} {K : Kept} {n : Nat} {T : Nat → TV} {a : Act} (h : RelT G w K n T a) : RelT G' w K n T a := ⟨h.1, fun i => (h.2 i).ctx hP⟩

theorem Inv.ctx {G G' : Ctx} (hP : G.P = G'.P) (hB : G.base = G'.base) (hW : G.W0 = G'.W0) {S : LS} {K : Kept} {w : World} (h : Inv G S K w) (hs : G'.since K w) : Inv G' S K w where
  below := hB ▸ hW ▸ h.below
  base := hB ▸ h.base
  live := h.live
  box := fun b cs hb => by
    obtain ⟨h1, h2, c, T, h3, h4, h5, h6⟩ := h.box b cs hb
    exact ⟨hB ▸ h1, h2, c, T, h3, h4, fun j x v hj hv => (h5 j x v hj hv).ctx hP, h6⟩
  row := fun b T n hb => by
    obtain ⟨h1, h2, h3, c, h4, h5⟩ := h.row b T n hb
    exact ⟨hB ▸ h1, h2, h3, c, h4, hP ▸ h5⟩
  obj := fun b o hb => by
    obtain ⟨h1, h2⟩ := h.obj b o hb
    exact ⟨hB ▸ h1, h2⟩
  top := h.top
  since := hs

/-- From one logical memory to the next, but for what a loop's record holds. -/
structure LS.leB (S S' : LS) : Prop where
  box : ∀ b cs, S.box b = some cs → S'.box b = some cs
  row : ∀ b x, S.row b = some x → S'.row b = some x
  top : S.top ≤ S'.top

theorem LS.leB.of_le {S S' : LS} (h : S.le S') : S.leB S' := ⟨h.box, h.row, h.top⟩
theorem LS.leB.setObj (S : LS) (b : Nat) (o : Obj) : S.leB (S.setObj b o) := ⟨fun _ _ h => h, fun _ _ h => h, Nat.le_max_left _ _⟩

/-- A new block that is not cells. -/
theorem Inv.newObj {G : Ctx} {S : LS} {K : Kept} {w : World} (h : Inv G S K w) (o : Obj) (hc : o.isCells = false) (hd : o ≠ .deferred (some [])) : Inv G (S.setObj w.heap.size o) K (w.alloc o) := by
  have ha := h.alloc o
  have ht := h.top
  refine { ha with box := fun b cs hb => ?_, row := fun b T n hb => ?_, obj := fun b o2 hb => ?_, top := by simp only [LS.setObj, World.size_alloc]; omega }
  · obtain ⟨h1, h2, h3⟩ := ha.box b cs hb
    exact ⟨h1, by simp only [LS.setObj]; omega, h3⟩
  · obtain ⟨h1, h2, h3⟩ := ha.row b T n hb
    exact ⟨h1, by simp only [LS.setObj]; omega, h3⟩
  · simp only [LS.setObj] at hb ⊢
    rcases beq_cases b w.heap.size (some o) (S.obj b) with ⟨rfl, e⟩ | ⟨hne, e⟩
    · rw [e] at hb
      obtain rfl : o = o2 := by simpa using hb
      exact ⟨h.base, by omega, heap_alloc_new w _, hc, hd⟩
    · rw [e] at hb
      obtain ⟨h1, h2, h3⟩ := ha.obj b o2 hb
      exact ⟨h1, by omega, h3⟩

/-- What a round's end asks. -/
def RoundPost (l : Nat) (o : Obj) (I : LS → Prop) (Ix : Code → LS → Prop) : Exit → (Nat → TV) → LS → Prop
  | .normal, _, S => S.obj l = some o ∧ I S
  | .exit id, _, S => S.obj l = some o ∧ Ix (.exit id) S
  | .ret, _, S => S.obj l = some o ∧ Ix .ret S
  | _, _, _ => False

theorem LWp.rangeFunc {G : Ctx} {n : Nat} {g : Operand} {ps : List Tmp} {assign body : Code} {Q : Exit → (Nat → TV) → LS → Prop} {T : Nat → TV} {S : LS} {gf : FuncId} {fn : Func} {c : Code} {lb : Array Value} {xs : List (List TV)} {C : LS → Prop}
    (hg : lev T g = .one (.v (.func (.func gf) #[] lb))) (hf : G.P.funcs[gf]? = some fn) (hname : (fn.name == "runtime.NumGoroutine") = false) (hb : fn.body = some c) (hlb : lb.toList.all (fun v => v.oneCell') = true)
    (hps : ps.all (fun p => Nat.blt p n) = true) (hlen : ∀ x ∈ xs, x.length = ps.length) (it : ∀ G' : Ctx, G'.P = G.P → LIter G' gf lb C xs)
    (I : Nat → LS → Prop) (Ix : Code → Nat → LS → Prop) (hI : ∀ k S S', I k S → S.leB S' → I k S') (hIx : ∀ c k S S', Ix c k S → S.leB S' → Ix c k S') (hC : ∀ k S, I k S → C S) (h0 : I 0 S)
    (round : ∀ l k x S2 o, xs[k]? = some x → I k S2 → S2.obj l = some o → LWp G (some l) n assign (fun e T1 S3 => e = .normal ∧ S3.obj l = some o ∧ ∀ o', LWp G (some l) n body (RoundPost l o' (I (k + 1)) fun c => Ix c (k + 1)) T1 (S3.setObj l o')) (setPs T ps x) S2)
    (done : ∀ S', I xs.length S' → Q .normal T S') (stop : ∀ c k S', k ≤ xs.length → Ix c k S' → LWp G none n c Q T S') :
    LWp G none n (.rangeFunc g ps.toArray assign body) Q T S := by
  intro m K w a hi hr hm
  refine wpIn_rangeFunc (F := Fence.wide) ?_
  intro fn0 hfn
  obtain ⟨rec, hrec⟩ : ∃ rec : LoopState → Option Code → Loop, rec = fun st pe => { state := st, pending := pe, fn := fn0, tmps := a.tmps, params := ps.toArray, assign, body, defers := w.heap.size } := ⟨_, rfl⟩
  obtain ⟨W1, hW1⟩ : ∃ W1, (w.alloc (.deferred (some []))).alloc (.loop (rec .ready Option.none)) = W1 := ⟨_, rfl⟩
  have hx1 : Ext K w K W1 := by rw [← hW1]; exact (Ext.alloc hi _).trans (Ext.alloc (hi.alloc _) _)
  have hi1 : Inv G (S.setObj (w.heap.size + 1) (.loop (rec .ready Option.none))) K W1 := by
    have := (hi.alloc (.deferred (some []))).newObj (.loop (rec .ready Option.none)) rfl (by simp)
    rw [World.size_alloc] at this
    rw [← hW1]; exact this
  have hmark1 : W1.heap[w.heap.size]? = some (.deferred (some [])) := by
    rw [← hW1]; exact (Below.heap_alloc _ _ _ (by simp)).trans (World.alloc_heap_new w _)
  let G' : Ctx := { G with since := fun K' w' => G.since K' w' ∧ Ext K W1 K' w', stable := fun K1 w1 K2 w2 h hx => ⟨G.stable _ _ _ _ h.1 hx, h.2.trans hx⟩ }
  have to' : ∀ {S K' w'}, Inv G S K' w' → Ext K W1 K' w' → Inv G' S K' w' := fun h hx => Inv.ctx (G := G) (G' := G') rfl rfl rfl h ⟨h.since, hx⟩
  have from' : ∀ {S K' w'}, Inv G' S K' w' → Inv G S K' w' := fun h => Inv.ctx (G := G') (G' := G) rfl rfl rfl h h.since.1
  have hgv : a.eval g = .func (.func gf) #[] lb := by
    have := hr.eval g
    rw [hg] at this
    exact this.flat
  have eg : ∀ args w, (callFunc gf args).run G.P w = .ok (.enter gf args) w := fun args w => by
    have hn : fn.name ≠ "runtime.NumGoroutine" := fun e => by rw [e] at hname; simp at hname
    simp [callFunc, hf, hn, hb]
  refine ⟨w.heap.size + 1, [{ target := .collected w.heap.size, args := #[] }], W1, { target := .fn (.func gf) lb, args := #[.func (.yield (w.heap.size + 1)) #[] #[]] }, W1, gf,
    #[.func (.yield (w.heap.size + 1)) #[] #[]] ++ lb, W1, ?_, ?_, fun _ _ => trivial, ?_, fun hd => by simp [Fence.wide] at hd, ?_⟩
  · rw [← hW1, hrec]; exact run_enterLoop_outer _ _ _ _ _
  · simp only [resolve, hgv]
    simp [go_sem]
  · simp [invoke, go_sem, eg]
  have hcall := it G' rfl (w.heap.size + 1) (fun k S => I k S ∧ S.obj (w.heap.size + 1) = some (.loop (rec .ready Option.none)))
    (fun k S => ∃ c, Ix c k S ∧ S.obj (w.heap.size + 1) = some (.loop (rec .done (some c)))) (S.setObj (w.heap.size + 1) (.loop (rec .ready Option.none)))
    (fun k S S' h hle => ⟨hI k S S' h.1 (.of_le hle), hle.obj _ _ h.2⟩) (fun k S S' ⟨c, h, h'⟩ hle => ⟨c, hIx c k S S' h (.of_le hle), hle.obj _ _ h'⟩) (fun k S h => hC k S h.1) ?_
    ⟨hI 0 _ _ h0 (.setObj _ _ _), setObj_obj _ _ _⟩ K W1 (#[.func (.yield (w.heap.size + 1)) #[] #[]] ++ lb) (to' hi1 (.refl _ _)) ?_
  · refine callsIn_wide.2 (hcall.mono fun e W2 hp => ?_)
    obtain ⟨r, v, S2, K2, rfl, h2, h3, h4, h5⟩ := hp
    have hi2 := from' h3
    have hxw : Ext K w K2 W2 := hx1.trans h4
    have fin : ∀ (st : LoopState) (pe : Option Code), S2.obj (w.heap.size + 1) = some (.loop (rec st pe)) → st ≠ .busy →
        (Instr.endLoop (w.heap.size + 1)).run G.P W2 = .ok pe (W2.putObj (w.heap.size + 1) (.loop (rec .exhausted pe))) ∧
        Inv G (S2.setObj (w.heap.size + 1) (.loop (rec .exhausted pe))) K2 (W2.putObj (w.heap.size + 1) (.loop (rec .exhausted pe))) ∧
        RelT G (W2.putObj (w.heap.size + 1) (.loop (rec .exhausted pe))) K2 n T { a with defers := [{ target := .collected w.heap.size, args := #[] }] ++ a.defers } ∧
        Marks m (W2.putObj (w.heap.size + 1) (.loop (rec .exhausted pe))) ([{ target := .collected w.heap.size, args := #[] }] ++ a.defers) ∧
        Ext K w K2 (W2.putObj (w.heap.size + 1) (.loop (rec .exhausted pe))) := by
      intro st pe ho hst
      obtain ⟨o1, o2, o3, o4, o5⟩ := hi2.obj _ _ ho
      have hend : (Instr.endLoop (w.heap.size + 1)).run G.P W2 = .ok pe (W2.putObj (w.heap.size + 1) (.loop (rec .exhausted pe))) := by
        have := run_endLoop (P := G.P) o3 (by rw [hrec]; exact hst)
        rw [hrec] at this ⊢
        exact this
      obtain ⟨p1, p2⟩ := hi2.putObj (o := .loop (rec st pe)) (o' := .loop (rec .exhausted pe)) o1 (Array.getElem?_eq_some_iff.1 o3).1 o3 rfl rfl (by simp) (by simp)
      have hxx := hxw.trans p2
      refine ⟨hend, p1, ⟨hr.1, fun i => (hr.2 i).mono hxx⟩, ?_, hxx⟩
      obtain ⟨m0, Ds, m1, m2, m3⟩ := hm
      refine ⟨Nat.le_trans m0 hxx.size, w.heap.size :: Ds, by rw [m1]; rfl, List.nodup_cons.2 ⟨fun hin => ?_, m2⟩, fun D hD => ?_⟩
      · have := (Array.getElem?_eq_some_iff.1 (m3 _ hin).2).1
        omega
      · rcases List.mem_cons.1 hD with rfl | hD
        · exact ⟨m0, (h4.trans p2).marks _ hmark1⟩
        · exact ⟨(m3 D hD).1, hxx.marks D (m3 D hD).2⟩
    rcases h5 with ⟨h5, h6⟩ | ⟨k, hk, c, h5, h6⟩
    · obtain ⟨f1, f2, f3, f4, f5⟩ := fin _ _ h6 (by simp)
      exact ⟨Option.none, _, f1, T, _, K2, f2, f3, f4, f5, done _ (hI _ _ _ h5 (.setObj _ _ _))⟩
    · obtain ⟨f1, f2, f3, f4, f5⟩ := fin _ _ h6 (by simp)
      exact ⟨some c, _, f1, wpIn_mono (stop c k _ hk (hIx _ _ _ _ h5 (.setObj _ _ _)) m K2 _ _ f2 f3 f4) fun e a' w' hp => hp.trans f5⟩
  · -- one round
    rintro k x S2 hxk ⟨hk1, hk2⟩ K2 w2 vals hi2' ha
    have hi2 := from' hi2'
    have hx2 : Ext K W1 K2 w2 := hi2'.since.2
    obtain ⟨o1, o2, o3, o4, o5⟩ := hi2.obj _ _ hk2
    have hsize : vals.size = ps.length := by rw [ha.1]; exact hlen x (List.mem_of_getElem? hxk)
    have hy := run_yield (P := G.P) (args := vals) o3 (by rw [hrec]; simpa using hsize)
    rw [hrec] at hy
    refine ⟨fn0, _, assign, body, hy, roundIn_of_wpIn trivial ?_⟩
    have hrel : RelT G w2 K2 n (setPs T ps x) { tmps := (ps.toArray.zip vals).foldl (fun t (p, v) => t.setIfInBounds p v) a.tmps, defers := [] } := by
      have := RelT.setPs (G := G) (w := w2) (K := K2) (n := n) ps x vals.toList T a.tmps [] hps (by simpa using ha.1) (fun i y v hy hv => RepT.ctx (G := G') (G' := G) rfl (ha.2 i y v hy (by simpa using hv))) ⟨hr.1, fun i => (hr.2 i).mono (hx1.trans hx2)⟩
      have e : (ps.toArray.zip vals).foldl (fun t (p, v) => t.setIfInBounds p v) a.tmps = (ps.zip vals.toList).foldl (fun t (p, v) => t.setIfInBounds p v) a.tmps := by
        rw [← Array.foldl_toList]; simp
      rw [e]; exact this
    refine wpIn_mono (round (w.heap.size + 1) k x S2 _ hxk hk1 hk2 w2.heap.size K2 w2 _ hi2 hrel (Marks.nil _)) fun e a3 w3 hp => ?_
    obtain ⟨T3, S3, K3, i1, i2, i3, i4, rfl, i5, i6⟩ := hp
    obtain ⟨q1, q2, q3, q4, q5⟩ := i1.obj _ _ i5
    obtain ⟨p1, p2⟩ := i1.putObj (o := .loop (rec .ready Option.none)) (o' := .loop (rec .busy Option.none)) q1 (Array.getElem?_eq_some_iff.1 q3).1 q3 rfl rfl (by simp) (by simp)
    have hbegin : (Instr.beginRound (w.heap.size + 1)).run G.P w3 = .ok () (w3.putObj (w.heap.size + 1) (.loop (rec .busy Option.none))) := by
      have := run_beginRound (P := G.P) q3 (by rw [hrec])
      rw [hrec] at this ⊢
      exact this
    refine ⟨_, hbegin, ?_⟩
    refine wpIn_mono (i6 _ _ K3 _ a3 p1 (i2.mono p2) (i3.mono p2)) fun e a4 w4 hp => ?_
    obtain ⟨T4, S4, K4, j1, j2, j3, j4, j5⟩ := hp
    have fin : ∀ (jump : Option Code), S4.obj (w.heap.size + 1) = some (.loop (rec .busy Option.none)) →
        (Instr.endRound (w.heap.size + 1) jump).run G.P w4 = .ok (.bool jump.isNone) (w4.putObj (w.heap.size + 1) (.loop (rec (if jump.isNone then .ready else .done) jump))) ∧
        Inv G' (S4.setObj (w.heap.size + 1) (.loop (rec (if jump.isNone then .ready else .done) jump))) K4 (w4.putObj (w.heap.size + 1) (.loop (rec (if jump.isNone then .ready else .done) jump))) ∧
        Ext K2 w2 K4 (w4.putObj (w.heap.size + 1) (.loop (rec (if jump.isNone then .ready else .done) jump))) := by
      intro jump ho
      obtain ⟨r1, r2, r3, r4, r5⟩ := j1.obj _ _ ho
      obtain ⟨s1, s2⟩ := j1.putObj (o := .loop (rec .busy Option.none)) (o' := .loop (rec (if jump.isNone then .ready else .done) jump)) r1 (Array.getElem?_eq_some_iff.1 r3).1 r3 rfl rfl (by simp) (by simp)
      have := run_endRound (P := G.P) jump r3
      rw [hrec] at this ⊢
      rw [hrec] at s1 s2
      have hxx := ((i4.trans p2).trans j4).trans s2
      exact ⟨this, to' s1 (hx2.trans hxx), hxx⟩
    cases e with
    | normal =>
      obtain ⟨f1, f2, f3⟩ := fin Option.none j5.1
      exact ⟨_, _, f1, _, _, K4, rfl, f2, f3, .inl ⟨rfl, hI _ _ _ j5.2 (.setObj _ _ _), setObj_obj _ _ _⟩⟩
    | ret =>
      obtain ⟨f1, f2, f3⟩ := fin (some .ret) j5.1
      exact ⟨_, _, f1, _, _, K4, rfl, f2, f3, .inr ⟨rfl, .ret, hIx _ _ _ _ j5.2 (.setObj _ _ _), setObj_obj _ _ _⟩⟩
    | exit id =>
      obtain ⟨f1, f2, f3⟩ := fin (some (.exit id)) j5.1
      exact ⟨_, _, f1, _, _, K4, rfl, f2, f3, .inr ⟨rfl, .exit id, hIx _ _ _ _ j5.2 (.setObj _ _ _), setObj_obj _ _ _⟩⟩
    | _ => exact j5.elim
  · -- the arguments
    refine ⟨by simp; omega, fun i x v hx hv => ?_⟩
    cases i with
    | zero =>
      obtain rfl : .one (.v (.func (.yield (w.heap.size + 1)) #[] #[])) = x := by simpa using hx
      rw [Array.getElem?_append_left (by simp)] at hv
      obtain rfl : .func (.yield (w.heap.size + 1)) #[] #[] = v := by simpa using hv
      exact .raw rfl
    | succ i =>
      simp only [List.getElem?_cons_succ, List.getElem?_map] at hx
      rw [Array.getElem?_append_right (by simp)] at hv
      simp only [List.size_toArray, List.length_cons, List.length_nil, Nat.add_sub_cancel, Nat.zero_add, Array.getElem?_toList] at hx hv
      rw [hv] at hx
      obtain rfl : .one (.v v) = x := by simpa using hx
      refine .raw ?_
      rw [List.all_eq_true] at hlb
      exact hlb v (Array.mem_toList_iff.2 (Array.mem_of_getElem? hv))

end Go.Proofs.Ytkjbdldjfjkneaa.LF
