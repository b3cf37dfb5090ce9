/- A frame for walks over values instead of memory: logical values, how they lie in the memory, what a step may change. -/
import Derived.WalkKit
import Derived.Below
import Derived.Laws.NewBlocks
import Derived.Laws.AppendOwn
import Derived.RangeFuncLeaves
import Derived.TacticsIn
import Derived.RangeFuncOwn
set_option linter.unusedVariables false
set_option linter.unusedSimpArgs false
namespace Go.Proofs.Ytkjbdldjfjkneaa.LF
open Go.RowKit

/-- Whose a slice's row is: nobody's (nil), shared, or the call's own block. -/
inductive Own where
  | nil | sh | own (b : Nat)

/-- A logical value of one cell: a plain one, or a slice with its elements' cells. -/
inductive LV where
  | v (x : Value)
  | sl (o : Own) (es : List (List LV))
  | p (l : List LV)

/-- What a slot holds: one cell, a struct's or array's cells, a tuple, a pointer to cells that stay. -/
inductive TV where
  | one (x : LV)
  | agg (l : List LV)
  | tup (l : List TV)
  | ro (l : List LV)
  | any
  | when (b : Bool) (r : TV)

def cellOf (es : List (List LV)) (i j : Nat) : Option LV := (es[i]?).bind (·[j]?)

/-- Which cells stay as they are. -/
abbrev Kept := Nat → Nat → Prop

/-- From one memory to a later one: what was kept is kept. -/
structure Ext (K : Kept) (w : World) (K' : Kept) (w' : World) : Prop where
  kept : ∀ b j, K b j → K' b j ∧ w'.cell? ⟨b, j, none⟩ = w.cell? ⟨b, j, none⟩
  shape : ∀ b s, w.shape? b = some s → w'.shape? b = some s
  size : w.heap.size ≤ w'.heap.size
  marks : ∀ b : Nat, w.heap[b]? = some (.deferred (some [])) → w'.heap[b]? = some (.deferred (some []))

structure Ctx where
  P : Program
  base : Nat
  W0 : World
  since : Kept → World → Prop := fun _ _ => True
  stable : ∀ K w K' w', since K w → Ext K w K' w' → since K' w' := by exact fun _ _ _ _ _ _ => True.intro

inductive Rep (G : Ctx) (w : World) (K : Kept) : LV → Value → Prop
  | raw (x : Value) (h1 : x.oneCell' = true) : Rep G w K (.v x) x
  | nil : Rep G w K (.sl .nil []) (.slice none 0 0)
  | emp (a : Option Addr) (cap : Nat) : Rep G w K (.sl .sh []) (.slice a 0 cap)
  | row (o : Own) (es : List (List LV)) (b off cap z : Nat) (c : Nat → Nat → Value)
      (hn : o ≠ .nil) (hcap : es.length ≤ cap) (hz : ∀ e ∈ es, e.length = z)
      (ho : ∀ b', o = .own b' → b' = b ∧ off = 0 ∧ ∃ T n, w.shape? b = some (T, n) ∧ z = G.P.cellsOf T ∧ n = cap * z ∧ cap ≤ maxLen)
      (hc : ∀ (i j : Nat) x, cellOf es i j = some x → w.cell? ⟨b, off + (i * z + j), none⟩ = some (c i j) ∧ K b (off + (i * z + j)))
      (hr : ∀ (i j : Nat) x, cellOf es i j = some x → Rep G w K x (c i j)) :
      Rep G w K (.sl o es) (.slice (some ⟨b, off, none⟩) es.length cap)
  | ptr (l : List LV) (b off : Nat) (c : Nat → Value) (h : ∀ (j : Nat) x, l[j]? = some x → w.cell? ⟨b, off + j, none⟩ = some (c j) ∧ K b (off + j))
      (hr : ∀ (j : Nat) x, l[j]? = some x → Rep G w K x (c j)) : Rep G w K (.p l) (.pointer (some ⟨b, off, none⟩))

theorem Ext.refl (K : Kept) (w : World) : Ext K w K w := ⟨fun _ _ h => ⟨h, rfl⟩, fun _ _ h => h, Nat.le_refl _, fun _ h => h⟩
theorem Ext.trans {K K' K'' : Kept} {w w' w'' : World} (h : Ext K w K' w') (k : Ext K' w' K'' w'') : Ext K w K'' w'' :=
  ⟨fun b j hk => ⟨(k.kept b j (h.kept b j hk).1).1, ((k.kept b j (h.kept b j hk).1).2).trans (h.kept b j hk).2⟩,
   fun b s hs => k.shape b s (h.shape b s hs), Nat.le_trans h.size k.size, fun b hb => k.marks b (h.marks b hb)⟩

theorem Rep.mono {G : Ctx} {w w' : World} {K K' : Kept} (hx : Ext K w K' w') {l : LV} {v : Value} (h : Rep G w K l v) : Rep G w' K' l v := by
  induction h with
  | raw x h1 => exact .raw x h1
  | nil => exact .nil
  | emp a cap => exact .emp a cap
  | row o es b off cap z c hn hcap hz ho hc hr ih =>
    refine .row o es b off cap z c hn hcap hz ?_ ?_ ih
    · intro b' hb'
      obtain ⟨h1, h2, T, n, h3, h4⟩ := ho b' hb'
      exact ⟨h1, h2, T, n, hx.shape _ _ h3, h4⟩
    · intro i j x hx'
      obtain ⟨h1, h2⟩ := hc i j x hx'
      exact ⟨by rw [(hx.kept _ _ h2).2]; exact h1, (hx.kept _ _ h2).1⟩
  | ptr l b off c h hr ih => exact .ptr l b off c (fun j x hj => ⟨by rw [(hx.kept _ _ (h j x hj).2).2]; exact (h j x hj).1, (hx.kept _ _ (h j x hj).2).1⟩) ih

/-- Forgetting whose a slice is. -/
theorem Rep.share {G : Ctx} {w : World} {K : Kept} {o : Own} {es : List (List LV)} {v : Value} (h : Rep G w K (.sl o es) v) : Rep G w K (.sl .sh es) v := by
  cases h with
  | nil => exact .emp none 0
  | emp a cap => exact .emp a cap
  | row _ _ b off cap z c hn hcap hz ho hc hr =>
    exact .row .sh es b off cap z c (by simp) hcap hz (by simp) hc hr

inductive RepT (G : Ctx) (w : World) (K : Kept) : TV → Value → Prop
  | one {x : LV} {v : Value} (h : Rep G w K x v) : RepT G w K (.one x) v
  | agg (l : List LV) (vs : Array Value) (hs : vs.size = l.length) (h : ∀ (j : Nat) x v, l[j]? = some x → vs[j]? = some v → Rep G w K x v) : RepT G w K (.agg l) (.agg vs)
  | tup (l : List TV) (vs : Array Value) (hs : vs.size = l.length) (h : ∀ (j : Nat) x v, l[j]? = some x → vs[j]? = some v → RepT G w K x v) : RepT G w K (.tup l) (.tuple vs)
  | ro (l : List LV) (b off : Nat) (c : Nat → Value) (h : ∀ (j : Nat) x, l[j]? = some x → w.cell? ⟨b, off + j, none⟩ = some (c j) ∧ K b (off + j))
      (hr : ∀ (j : Nat) x, l[j]? = some x → Rep G w K x (c j)) : RepT G w K (.ro l) (.pointer (some ⟨b, off, none⟩))
  | any (v : Value) : RepT G w K .any v
  | when (b : Bool) (r : TV) (v : Value) (h1 : b = true → RepT G w K r v) (h0 : b = false → v = undef) : RepT G w K (.when b r) v

theorem RepT.mono {G : Ctx} {w w' : World} {K K' : Kept} (hx : Ext K w K' w') {l : TV} {v : Value} (h : RepT G w K l v) : RepT G w' K' l v := by
  induction h with
  | one h => exact .one (h.mono hx)
  | agg l vs hs h => exact .agg l vs hs fun j x v hj hv => (h j x v hj hv).mono hx
  | tup l vs hs h ih => exact .tup l vs hs ih
  | ro l b off c h hr =>
    exact .ro l b off c (fun j x hj => ⟨by rw [(hx.kept _ _ (h j x hj).2).2]; exact (h j x hj).1, (hx.kept _ _ (h j x hj).2).1⟩) fun j x hj => (hr j x hj).mono hx
  | any v => exact .any v
  | when b r v h1 h0 ih => exact .when b r v ih h0

/-- The logical memory: the blocks that may be written, the rows that may be appended to. -/
structure LS where
  box : Nat → Option (List LV)
  row : Nat → Option (TypeId × Nat)
  obj : Nat → Option Obj
  top : Nat

/-- The marks of ranges over functions, among the deferred calls. -/
def Marks (m : Nat) (w : World) (ds : List Deferred) : Prop :=
  m ≤ w.heap.size ∧ ∃ Ds : List Nat, ds = Ds.map (fun D => { target := .collected D, args := #[] }) ∧ Ds.Nodup ∧ ∀ D ∈ Ds, m ≤ D ∧ w.heap[D]? = some (.deferred (some []))

theorem Marks.nil (w : World) : Marks w.heap.size w [] := ⟨Nat.le_refl _, [], rfl, List.nodup_nil, by simp⟩
theorem Marks.mono {m : Nat} {w w' : World} {K K' : Kept} {ds : List Deferred} (hx : Ext K w K' w') (h : Marks m w ds) : Marks m w' ds := by
  obtain ⟨h0, Ds, h1, h2, h3⟩ := h
  exact ⟨Nat.le_trans h0 hx.size, Ds, h1, h2, fun D hD => ⟨(h3 D hD).1, hx.marks D (h3 D hD).2⟩⟩

structure Inv (G : Ctx) (S : LS) (K : Kept) (w : World) : Prop where
  below : Below G.base G.W0 w
  base : G.base ≤ w.heap.size
  live : ∀ b j, K b j → ∃ v, w.cell? ⟨b, j, none⟩ = some v
  box : ∀ b cs, S.box b = some cs → G.base ≤ b ∧ b < S.top ∧ ∃ c T, w.heap[b]? = some (.cells c T (0, 0)) ∧ c.size = cs.length ∧
    (∀ (j : Nat) x v, cs[j]? = some x → c[j]? = some v → Rep G w K x v) ∧ ∀ j, ¬ K b j
  row : ∀ b T n, S.row b = some (T, n) → G.base ≤ b ∧ b < S.top ∧ S.box b = none ∧ ∃ c, w.heap[b]? = some (.cells c T (0, 0)) ∧ ∀ j, n * G.P.cellsOf T ≤ j → ¬ K b j
  obj : ∀ b o, S.obj b = some o → G.base ≤ b ∧ b < S.top ∧ w.heap[b]? = some o ∧ o.isCells = false ∧ o ≠ .deferred (some [])
  top : S.top ≤ w.heap.size
  since : G.since K w

def RelT (G : Ctx) (w : World) (K : Kept) (n : Nat) (T : Nat → TV) (a : Act) : Prop := a.tmps.size = n ∧ ∀ i, RepT G w K (T i) (a.tmps.getD i undef)

theorem RelT.mono {G : Ctx} {w w' : World} {K K' : Kept} {n : Nat} {T : Nat → TV} {a : Act} (hx : Ext K w K' w') (h : RelT G w K n T a) : RelT G w' K' n T a :=
  ⟨h.1, fun i => (h.2 i).mono hx⟩

def upd (T : Nat → TV) (d : Nat) (r : TV) : Nat → TV := fun i => bif Nat.beq i d then r else T i

theorem upd_same (T : Nat → TV) (d : Nat) (r : TV) : upd T d r d = r := by simp [upd]
theorem upd_ne (T : Nat → TV) {d i : Nat} (r : TV) (h : i ≠ d) : upd T d r i = T i := by
  have : Nat.beq i d = false := by cases hb : Nat.beq i d with
    | false => rfl
    | true => exact absurd (Nat.eq_of_beq_eq_true hb) h
  simp [upd, this]

def putT (T : Nat → TV) (dst : Option Tmp) (r : TV) : Nat → TV := match dst with
  | some d => upd T d r
  | none => T

def dstOK (n : Nat) (dst : Option Tmp) : Bool := match dst with
  | some d => Nat.blt d n
  | none => true

theorem RelT.put {G : Ctx} {w : World} {K : Kept} {n : Nat} {T : Nat → TV} {a : Act} {dst : Option Tmp} {r : TV} {v : Value} (h : RelT G w K n T a)
    (hd : dstOK n dst = true) (hr : RepT G w K r v) : RelT G w K n (putT T dst r) (a.put dst v) := by
  cases dst with
  | none => exact h
  | some d =>
    have hd' : d < n := by simpa [dstOK, Nat.blt_eq] using hd
    refine ⟨by simp [Act.put, h.1], fun i => ?_⟩
    by_cases hi : i = d
    · subst hi
      simp only [putT, upd_same, Act.put]
      have : (a.tmps.setIfInBounds i v).getD i undef = v := by
        rw [Array.getD_eq_getD_getElem?]; simp [h.1, hd']
      rw [this]; exact hr
    · simp only [putT, upd_ne T r hi, Act.put]
      have : (a.tmps.setIfInBounds d v).getD i undef = a.tmps.getD i undef := by
        rw [Array.getD_eq_getD_getElem?, Array.getD_eq_getD_getElem?, Array.getElem?_setIfInBounds_ne (Ne.symm hi)]
      rw [this]; exact h.2 i

theorem put_defers (a : Act) (dst : Option Tmp) (v : Value) : (a.put dst v).defers = a.defers := by cases dst <;> rfl

/-- What holds behind a step. -/
def Post (G : Ctx) (m n : Nat) (K : Kept) (w : World) (Q : (Nat → TV) → LS → Prop) (a' : Act) (w' : World) : Prop :=
  ∃ T' S' K', Inv G S' K' w' ∧ RelT G w' K' n T' a' ∧ Marks m w' a'.defers ∧ Ext K w K' w' ∧ Q T' S'

theorem Post.trans {G : Ctx} {m n : Nat} {K K' : Kept} {w w' : World} {Q : (Nat → TV) → LS → Prop} {a' : Act} {w'' : World} (hx : Ext K w K' w') (h : Post G m n K' w' Q a' w'') : Post G m n K w Q a' w'' := by
  obtain ⟨T', S', K'', h1, h2, h3, h4, h5⟩ := h
  exact ⟨T', S', K'', h1, h2, h3, hx.trans h4, h5⟩

theorem Post.mono {G : Ctx} {m n : Nat} {K : Kept} {w : World} {Q Q' : (Nat → TV) → LS → Prop} {a' : Act} {w' : World} (hq : ∀ T S, Q T S → Q' T S) (h : Post G m n K w Q a' w') : Post G m n K w Q' a' w' := by
  obtain ⟨T', S', K'', h1, h2, h3, h4, h5⟩ := h
  exact ⟨T', S', K'', h1, h2, h3, h4, hq _ _ h5⟩

/-- The frames: of a function's own, or of a round of a range over a function. -/
def fen : Option Nat → Fence
  | none => Fence.wide
  | some l => Fence.wide.inRound l

theorem fen_fn (M : Option Nat) (f : FuncId) : (fen M).fn f := by cases M <;> trivial
theorem fen_depth (M : Option Nat) : (fen M).depth = none := by cases M <;> rfl
theorem fen_round (M : Option Nat) : (fen M).round = M := by cases M <;> rfl
theorem fen_fenced (M : Option Nat) (P : Program) : Machine.fenced P (fen M) = Machine.fenced P Fence.wide := by cases M <;> rfl
theorem fen_calls {M : Option Nat} {n : Nat} {P : Program} {f : FuncId} {args : Array Value} {w : World} {R : Ending → World → Prop} (h : Calls P f args w R) : CallsIn (fen M) n P f args w R := by
  cases M <;> exact callsIn_wide.2 h

/-- One operation. -/
def LStep (G : Ctx) (M : Option Nat) (n : Nat) (o : Oper) (Q : (Nat → TV) → LS → Prop) (T : Nat → TV) (S : LS) : Prop :=
  ∀ (m : Nat) K w a, Inv G S K w → RelT G w K n T a → Marks m w a.defers → o.wpIn (fen M) 0 G.P a w (Post G m n K w Q) (fun _ _ _ => False)

/-- A region's operations, in the text's order. -/
def LOps (G : Ctx) (M : Option Nat) (n : Nat) (ops : Array Oper) (l : List Oper) (Q : (Nat → TV) → LS → Prop) (T : Nat → TV) (S : LS) : Prop :=
  ∀ (m : Nat) K w a, Inv G S K w → RelT G w K n T a → Marks m w a.defers → wpListIn (fen M) 0 G.P ops (fun e a' w' => e = .normal ∧ Post G m n K w Q a' w') l a w

def LWp (G : Ctx) (M : Option Nat) (n : Nat) (c : Code) (Q : Exit → (Nat → TV) → LS → Prop) (T : Nat → TV) (S : LS) : Prop :=
  ∀ (m : Nat) K w a, Inv G S K w → RelT G w K n T a → Marks m w a.defers → c.wpIn (fen M) 0 G.P (fun e a' w' => Post G m n K w (Q e) a' w') a w

def ArgsRel (G : Ctx) (w : World) (K : Kept) (args : List TV) (vals : Array Value) : Prop :=
  vals.size = args.length ∧ ∀ (i : Nat) x v, args[i]? = some x → vals[i]? = some v → RepT G w K x v

def LCalls (G : Ctx) (f : FuncId) (args : List TV) (Q : TV → LS → Prop) (S : LS) : Prop :=
  ∀ K w vals, Inv G S K w → ArgsRel G w K args vals → Calls G.P f vals w fun e w' =>
    ∃ r v S' K', e = .returned v ∧ RepT G w' K' r v ∧ Inv G S' K' w' ∧ Ext K w K' w' ∧ Q r S'

theorem upon_mono {P : Program} {o : Oper} {a : Act} {N N' : Act → World → Prop} {Q Q' : Exit → Act → World → Prop} {r : Result Next}
    (hn : ∀ a w, N a w → N' a w) (hq : ∀ e a w, Q e a w → Q' e a w) (h : o.upon P a N Q r) : o.upon P a N' Q' r := by
  unfold Oper.upon at *
  split at h
  · exact hn _ _ h
  · exact hn _ _ h
  · exact hn _ _ h
  · refine h.mono fun e w' he => ?_
    cases e with
    | returned v => exact hn _ _ he
    | panicked c => exact hq _ _ _ he
    | outgrown => obtain ⟨a0, w0, h0⟩ := he; exact ⟨a0, w0, hq _ _ _ h0⟩
  · exact h.mono fun v w' he => hn _ _ he
  · exact hq _ _ _ h
  · exact h.elim

theorem uponIn_mono {F : Fence} {n : Nat} {P : Program} {o : Oper} {a : Act} {N N' : Act → World → Prop} {Q Q' : Exit → Act → World → Prop} {r : Result Next}
    (hn : ∀ a w, N a w → N' a w) (hq : ∀ e a w, Q e a w → Q' e a w) (h : o.uponIn F n P a N Q r) : o.uponIn F n P a N' Q' r := by
  unfold Oper.uponIn at *
  split at h
  · exact hn _ _ h
  · exact hn _ _ h
  · exact hn _ _ h
  · refine ⟨h.1, h.2.1, fun cs hr => ?_⟩
    obtain ⟨e, w', fr, he, rest⟩ := h.2.2 cs hr
    refine ⟨e, w', fr, ?_, rest⟩
    cases e with
    | returned v => exact hn _ _ he
    | panicked c => exact hq _ _ _ he
    | outgrown => obtain ⟨a0, w0, h0⟩ := he; exact ⟨a0, w0, hq _ _ _ h0⟩
  · exact ⟨h.1, h.2.mono fun v w' he => hn _ _ he⟩
  · refine ⟨h.1, h.2.mono fun e w' he => ?_⟩
    cases e with
    | returned v => exact hn _ _ he
    | panicked c => exact hq _ _ _ he
    | outgrown => obtain ⟨a0, w0, h0⟩ := he; exact ⟨a0, w0, hq _ _ _ h0⟩
  · exact hq _ _ _ h
  · exact h.elim

theorem wpListIn_mono {F : Fence} {n : Nat} {P : Program} {ops : Array Oper} {Q Q' : Exit → Act → World → Prop} (hq : ∀ e a w, Q e a w → Q' e a w) :
    ∀ (l : List Oper) (a : Act) (w : World), wpListIn F n P ops Q l a w → wpListIn F n P ops Q' l a w := by
  intro l
  induction l with
  | nil => exact fun a w h => hq _ _ _ h
  | cons o l ih =>
    intro a w h
    have e : ∀ Q : Exit → Act → World → Prop, wpListIn F n P ops Q (o :: l) a w = if Region.wanted o (yielded ops a.tmps) then o.wpIn F n P a w (wpListIn F n P ops Q l) Q else (∀ f, o.about P w a.eval = some f → F.fn f) ∧ wpListIn F n P ops Q l (a.put o.dst undef) w := fun _ => rfl
    rw [e] at h ⊢
    split at h
    · rename_i hw
      rw [if_pos hw]
      exact ⟨h.1, uponIn_mono ih hq h.2⟩
    · rename_i hw
      rw [if_neg hw]
      exact ⟨h.1, ih _ _ h.2⟩

/-- An operation that gives a value is met in whatever frame. -/
theorem wpIn_of_wp {M : Option Nat} {P : Program} {o : Oper} {a : Act} {w : World} {N N' : Act → World → Prop} {Q : Exit → Act → World → Prop} (h : o.wp P a w N (fun _ _ _ => False))
    (hn : ∀ a' w', N a' w' → a'.defers = a.defers ∧ N' a' w') : o.wpIn (fen M) 0 P a w N' Q := by
  refine ⟨fun f _ => fen_fn M f, ?_⟩
  have hnd : ∀ c, o.op ≠ .defer c := by
    intro c hc
    unfold Oper.wp execOp at h
    simp only [hc, Sem.run_bind] at h
    cases hr : (resolve a.eval c o.type).run P w with
    | halt x w' =>
      rw [hr] at h
      cases x <;> exact h
    | ok d w' =>
      rw [hr] at h
      have h2 := (hn _ _ h).1
      cases hd : o.dst <;> simp [Act.put, hd] at h2
  have hs : o.semAt (fen M).round a.eval = execOp a.eval o := Oper.semAt_eq _ _ _ hnd
  rw [hs]
  unfold Oper.wp at h
  generalize (execOp a.eval o).run P w = r at h
  unfold Oper.upon at h
  unfold Oper.uponIn
  split at h
  · exact (hn _ _ h).2
  · exact (hn _ _ h).2
  · exact (hn _ _ h).2
  · refine ⟨fun hd => by simp [fen_depth] at hd, fen_calls (h.mono fun e w' he => ?_)⟩
    cases e with
    | returned v => exact (hn _ _ he).2
    | panicked c => exact he.elim
    | outgrown => obtain ⟨a0, w0, h0⟩ := he; exact h0.elim
  · rename_i row args w' 
    refine ⟨fun hd => by simp [fen_depth] at hd, fun c cs _ => ?_⟩
    obtain ⟨v, w2, hv, hs⟩ := h c cs
    refine ⟨v, w2, (hn _ _ hv).2, ?_⟩
    rw [fen_fenced]
    exact stepsIn_wide.2 hs
  · exact h.elim
  · exact h.elim

theorem LStep.mono {G : Ctx} {M : Option Nat} {n : Nat} {o : Oper} {Q Q' : (Nat → TV) → LS → Prop} {T : Nat → TV} {S : LS} (hq : ∀ T S, Q T S → Q' T S) (h : LStep G M n o Q T S) : LStep G M n o Q' T S :=
  fun m K w a h1 h2 h3 => ⟨(h m K w a h1 h2 h3).1, uponIn_mono (fun _ _ hp => hp.mono hq) (fun _ _ _ h => h) (h m K w a h1 h2 h3).2⟩

theorem LOps.nil {G : Ctx} {M : Option Nat} {n : Nat} {ops : Array Oper} {Q : (Nat → TV) → LS → Prop} {T : Nat → TV} {S : LS} (h : Q T S) : LOps G M n ops [] Q T S :=
  fun _ K w _ h1 h2 h3 => ⟨rfl, T, S, K, h1, h2, h3, Ext.refl K w, h⟩

/-- What a guard says: the operation is done, or not. -/
def wantedT (ops : Array Oper) (T : Nat → TV) (o : Oper) : Option Bool :=
  match o.guard with
  | none => some true
  | some (j, want) => match (ops[j]?).bind (·.dst) with
    | none => none
    | some d => match T d with
      | .one (.v (.bool b)) => some (b == want)
      | .tup _ => some false
      | .when g (.one (.v (.bool b))) => some (g && (b == want))
      | _ => none

theorem wanted_of {G : Ctx} {w : World} {K : Kept} {n : Nat} {T : Nat → TV} {a : Act} (h : RelT G w K n T a) {ops : Array Oper} {o : Oper} {b : Bool} (hw : wantedT ops T o = some b) :
    Region.wanted o (yielded ops a.tmps) = b := by
  unfold wantedT at hw
  unfold Region.wanted
  cases hg : o.guard with
  | none => rw [hg] at hw; simpa using hw
  | some jw =>
    obtain ⟨j, want⟩ := jw
    rw [hg] at hw
    simp only at hw ⊢
    cases hd : (ops[j]?).bind (·.dst) with
    | none => rw [hd] at hw; simp at hw
    | some d =>
      rw [hd] at hw
      simp only at hw
      have hr := h.2 d
      cases ht : T d with
      | one x =>
        rw [ht] at hw hr
        cases x with
        | v x =>
          cases x with
          | bool c =>
            simp only [Option.some.injEq] at hw
            cases hr with
            | one hr =>
              generalize hv : a.tmps.getD d undef = v at hr
              cases hr
              have hy : yielded ops a.tmps j = some c := by
                unfold yielded
                rw [hd]
                simp only [Option.bind_some]
                rw [Array.getD_eq_getD_getElem?] at hv
                cases h2 : a.tmps[d]? with
                | none => rw [h2] at hv; simp [undef] at hv
                | some u => rw [h2] at hv; simp at hv; subst hv; rfl
              rw [hy, ← hw]
              cases c <;> cases want <;> rfl
          | _ => simp at hw
        | _ => simp at hw
      | tup l =>
        rw [ht] at hw hr
        obtain rfl : false = b := by simpa using hw
        generalize hv : a.tmps.getD d undef = v at hr
        cases hr with
        | tup _ vs _ _ =>
          have hy : yielded ops a.tmps j = none := by
            unfold yielded
            rw [hd]
            simp only [Option.bind_some]
            rw [Array.getD_eq_getD_getElem?] at hv
            cases h2 : a.tmps[d]? with
            | none => rfl
            | some u => rw [h2] at hv; simp at hv; subst hv; rfl
          rw [hy]; cases want <;> rfl
      | when g r =>
        rw [ht] at hw hr
        cases r with
        | one x =>
          cases x with
          | v x =>
            cases x with
            | bool c =>
              simp only [Option.some.injEq] at hw
              generalize hv : a.tmps.getD d undef = v at hr
              cases hr with
              | when _ _ _ h1 h0 =>
                cases g with
                | false =>
                  have hvu := h0 rfl
                  have hy : yielded ops a.tmps j = none := by
                    unfold yielded
                    rw [hd]
                    simp only [Option.bind_some]
                    rw [Array.getD_eq_getD_getElem?] at hv
                    cases h2 : a.tmps[d]? with
                    | none => rfl
                    | some u => rw [h2] at hv; simp at hv; subst hv; rw [hvu]; rfl
                  rw [hy, ← hw]; cases want <;> rfl
                | true =>
                  have hvb := h1 rfl
                  have hvv : v = .bool c := by
                    cases hvb with
                    | one h => cases h; rfl
                  have hy : yielded ops a.tmps j = some c := by
                    unfold yielded
                    rw [hd]
                    simp only [Option.bind_some]
                    rw [Array.getD_eq_getD_getElem?] at hv
                    cases h2 : a.tmps[d]? with
                    | none => rw [h2, hvv] at hv; simp [undef] at hv
                    | some u => rw [h2] at hv; simp at hv; subst hv; rw [hvv]
                  rw [hy, ← hw]
                  cases c <;> cases want <;> rfl
            | _ => simp at hw
          | _ => simp at hw
        | _ => simp at hw
      | _ => rw [ht] at hw; simp at hw

theorem LOps.stepG {G : Ctx} {M : Option Nat} {n : Nat} {ops : Array Oper} {o : Oper} {l : List Oper} {Q : (Nat → TV) → LS → Prop} {T : Nat → TV} {S : LS} (hg : wantedT ops T o = some true)
    (h : LStep G M n o (LOps G M n ops l Q) T S) : LOps G M n ops (o :: l) Q T S := by
  intro m K w a h1 h2 h3
  unfold wpListIn
  rw [if_pos (wanted_of h2 hg)]
  obtain ⟨h4, h5⟩ := h m K w a h1 h2 h3
  refine ⟨h4, uponIn_mono (fun a' w' hp => ?_) (fun _ _ _ h => h.elim) h5⟩
  obtain ⟨T', S', K', i1, i2, i3, i4, i5⟩ := hp
  exact wpListIn_mono (fun e a w ⟨he, hp⟩ => ⟨he, hp.trans i4⟩) _ _ _ (i5 m K' w' a' i1 i2 i3)

theorem LOps.step {G : Ctx} {M : Option Nat} {n : Nat} {ops : Array Oper} {o : Oper} {l : List Oper} {Q : (Nat → TV) → LS → Prop} {T : Nat → TV} {S : LS} (hg : o.guard = none)
    (h : LStep G M n o (LOps G M n ops l Q) T S) : LOps G M n ops (o :: l) Q T S := .stepG (by simp [wantedT, hg]) h

theorem LOps.skip {G : Ctx} {M : Option Nat} {n : Nat} {ops : Array Oper} {o : Oper} {l : List Oper} {Q : (Nat → TV) → LS → Prop} {T : Nat → TV} {S : LS} (hg : wantedT ops T o = some false)
    (hd : dstOK n o.dst = true) (h : LOps G M n ops l Q (putT T o.dst (.tup [])) S) : LOps G M n ops (o :: l) Q T S := by
  intro m K w a h1 h2 h3
  unfold wpListIn
  rw [if_neg (by rw [wanted_of h2 hg]; simp)]
  exact ⟨fun f _ => fen_fn M f, h m K w _ h1 (h2.put hd (.tup [] #[] rfl (by simp))) (by rw [put_defers]; exact h3)⟩

end Go.Proofs.Ytkjbdldjfjkneaa.LF
