/- Parts of the frame, one behind the other: LFa LIv LFb LFc LFd LFe LFf LFg LFh. (Printed by merge.py.) -/
import Derived.WalkKit
import Derived.Below
import Derived.Laws.NewBlocks
import Derived.Laws.AppendOwn
import Derived.RangeFuncLeaves
import Derived.TacticsIn
import Derived.RangeFuncOwn
import Derived.Deep.LoopGhost
import Derived.Laws.StructEq
import Derived.Orders
import Derived.OrdersIn
import Derived.Maps.AppendAt
import Derived.Laws.IdiomCopy
set_option linter.unusedVariables false
set_option linter.unusedSimpArgs false
section
/- A frame for walks over values instead of memory: logical values, how they lie in the memory, what a step may change. -/
namespace Go.Proofs.Ytgkjhlmfgaaddaa.LF
open Go.RowKit

/-- Whose a slice's row is: nobody's (nil), shared, or the call's own block. -/
inductive Own where
  | nil | sh | own (b : Nat)

/-- A logical value of one cell: a plain one, or a slice with its elements' cells. -/
inductive LV where
  | v (x : Value)
  | sl (o : Own) (es : List (List LV))
  | p (l : List LV)

/-- What a slot holds: one cell, a struct's or array's cells, a tuple, a pointer to cells that stay. -/
inductive TV where
  | one (x : LV)
  | agg (l : List LV)
  | tup (l : List TV)
  | ro (l : List LV)
  | any
  | when (b : Bool) (r : TV)

def cellOf (es : List (List LV)) (i j : Nat) : Option LV := (es[i]?).bind (·[j]?)

/-- Which cells stay as they are. -/
abbrev Kept := Nat → Nat → Prop

/-- From one memory to a later one: what was kept is kept. -/
structure Ext (K : Kept) (w : World) (K' : Kept) (w' : World) : Prop where
  kept : ∀ b j, K b j → K' b j ∧ w'.cell? ⟨b, j, none⟩ = w.cell? ⟨b, j, none⟩
  shape : ∀ b s, w.shape? b = some s → w'.shape? b = some s
  size : w.heap.size ≤ w'.heap.size
  marks : ∀ b : Nat, w.heap[b]? = some (.deferred (some [])) → w'.heap[b]? = some (.deferred (some []))

structure Ctx where
  P : Program
  base : Nat
  W0 : World
  since : Kept → World → Prop := fun _ _ => True
  stable : ∀ K w K' w', since K w → Ext K w K' w' → since K' w' := by exact fun _ _ _ _ _ _ => True.intro

inductive Rep (G : Ctx) (w : World) (K : Kept) : LV → Value → Prop
  | raw (x : Value) (h1 : x.oneCell' = true) : Rep G w K (.v x) x
  | nil : Rep G w K (.sl .nil []) (.slice none 0 0)
  | emp (a : Option Addr) (cap : Nat) : Rep G w K (.sl .sh []) (.slice a 0 cap)
  | row (o : Own) (es : List (List LV)) (b off cap z : Nat) (c : Nat → Nat → Value)
      (hn : o ≠ .nil) (hcap : es.length ≤ cap) (hz : ∀ e ∈ es, e.length = z)
      (ho : ∀ b', o = .own b' → b' = b ∧ off = 0 ∧ ∃ T n, w.shape? b = some (T, n) ∧ z = G.P.cellsOf T ∧ n = cap * z ∧ cap ≤ maxLen)
      (hc : ∀ (i j : Nat) x, cellOf es i j = some x → w.cell? ⟨b, off + (i * z + j), none⟩ = some (c i j) ∧ K b (off + (i * z + j)))
      (hr : ∀ (i j : Nat) x, cellOf es i j = some x → Rep G w K x (c i j)) :
      Rep G w K (.sl o es) (.slice (some ⟨b, off, none⟩) es.length cap)
  | ptr (l : List LV) (b off : Nat) (c : Nat → Value) (h : ∀ (j : Nat) x, l[j]? = some x → w.cell? ⟨b, off + j, none⟩ = some (c j) ∧ K b (off + j))
      (hr : ∀ (j : Nat) x, l[j]? = some x → Rep G w K x (c j)) : Rep G w K (.p l) (.pointer (some ⟨b, off, none⟩))

theorem Ext.refl (K : Kept) (w : World) : Ext K w K w := ⟨fun _ _ h => ⟨h, rfl⟩, fun _ _ h => h, Nat.le_refl _, fun _ h => h⟩
theorem Ext.trans {K K' K'' : Kept} {w w' w'' : World} (h : Ext K w K' w') (k : Ext K' w' K'' w'') : Ext K w K'' w'' :=
  ⟨fun b j hk => ⟨(k.kept b j (h.kept b j hk).1).1, ((k.kept b j (h.kept b j hk).1).2).trans (h.kept b j hk).2⟩,
   fun b s hs => k.shape b s (h.shape b s hs), Nat.le_trans h.size k.size, fun b hb => k.marks b (h.marks b hb)⟩

theorem Rep.mono {G : Ctx} {w w' : World} {K K' : Kept} (hx : Ext K w K' w') {l : LV} {v : Value} (h : Rep G w K l v) : Rep G w' K' l v := by
  induction h with
  | raw x h1 => exact .raw x h1
  | nil => exact .nil
  | emp a cap => exact .emp a cap
  | row o es b off cap z c hn hcap hz ho hc hr ih =>
    refine .row o es b off cap z c hn hcap hz ?_ ?_ ih
    · intro b' hb'
      obtain ⟨h1, h2, T, n, h3, h4⟩ := ho b' hb'
      exact ⟨h1, h2, T, n, hx.shape _ _ h3, h4⟩
    · intro i j x hx'
      obtain ⟨h1, h2⟩ := hc i j x hx'
      exact ⟨by rw [(hx.kept _ _ h2).2]; exact h1, (hx.kept _ _ h2).1⟩
  | ptr l b off c h hr ih => exact .ptr l b off c (fun j x hj => ⟨by rw [(hx.kept _ _ (h j x hj).2).2]; exact (h j x hj).1, (hx.kept _ _ (h j x hj).2).1⟩) ih

/-- Forgetting whose a slice is. -/
theorem Rep.share {G : Ctx} {w : World} {K : Kept} {o : Own} {es : List (List LV)} {v : Value} (h : Rep G w K (.sl o es) v) : Rep G w K (.sl .sh es) v := by
  cases h with
  | nil => exact .emp none 0
  | emp a cap => exact .emp a cap
  | row _ _ b off cap z c hn hcap hz ho hc hr =>
    exact .row .sh es b off cap z c (by simp) hcap hz (by simp) hc hr

inductive RepT (G : Ctx) (w : World) (K : Kept) : TV → Value → Prop
  | one {x : LV} {v : Value} (h : Rep G w K x v) : RepT G w K (.one x) v
  | agg (l : List LV) (vs : Array Value) (hs : vs.size = l.length) (h : ∀ (j : Nat) x v, l[j]? = some x → vs[j]? = some v → Rep G w K x v) : RepT G w K (.agg l) (.agg vs)
  | tup (l : List TV) (vs : Array Value) (hs : vs.size = l.length) (h : ∀ (j : Nat) x v, l[j]? = some x → vs[j]? = some v → RepT G w K x v) : RepT G w K (.tup l) (.tuple vs)
  | ro (l : List LV) (b off : Nat) (c : Nat → Value) (h : ∀ (j : Nat) x, l[j]? = some x → w.cell? ⟨b, off + j, none⟩ = some (c j) ∧ K b (off + j))
      (hr : ∀ (j : Nat) x, l[j]? = some x → Rep G w K x (c j)) : RepT G w K (.ro l) (.pointer (some ⟨b, off, none⟩))
  | any (v : Value) : RepT G w K .any v
  | when (b : Bool) (r : TV) (v : Value) (h1 : b = true → RepT G w K r v) (h0 : b = false → v = undef) : RepT G w K (.when b r) v

theorem RepT.mono {G : Ctx} {w w' : World} {K K' : Kept} (hx : Ext K w K' w') {l : TV} {v : Value} (h : RepT G w K l v) : RepT G w' K' l v := by
  induction h with
  | one h => exact .one (h.mono hx)
  | agg l vs hs h => exact .agg l vs hs fun j x v hj hv => (h j x v hj hv).mono hx
  | tup l vs hs h ih => exact .tup l vs hs ih
  | ro l b off c h hr =>
    exact .ro l b off c (fun j x hj => ⟨by rw [(hx.kept _ _ (h j x hj).2).2]; exact (h j x hj).1, (hx.kept _ _ (h j x hj).2).1⟩) fun j x hj => (hr j x hj).mono hx
  | any v => exact .any v
  | when b r v h1 h0 ih => exact .when b r v ih h0

/-- The logical memory: the blocks that may be written, the rows that may be appended to. -/
structure LS where
  box : Nat → Option (List LV)
  row : Nat → Option (TypeId × Nat)
  obj : Nat → Option Obj
  top : Nat

/-- The marks of ranges over functions, among the deferred calls. -/
def Marks (m : Nat) (w : World) (ds : List Deferred) : Prop :=
  m ≤ w.heap.size ∧ ∃ Ds : List Nat, ds = Ds.map (fun D => { target := .collected D, args := #[] }) ∧ Ds.Nodup ∧ ∀ D ∈ Ds, m ≤ D ∧ w.heap[D]? = some (.deferred (some []))

theorem Marks.nil (w : World) : Marks w.heap.size w [] := ⟨Nat.le_refl _, [], rfl, List.nodup_nil, by simp⟩
theorem Marks.mono {m : Nat} {w w' : World} {K K' : Kept} {ds : List Deferred} (hx : Ext K w K' w') (h : Marks m w ds) : Marks m w' ds := by
  obtain ⟨h0, Ds, h1, h2, h3⟩ := h
  exact ⟨Nat.le_trans h0 hx.size, Ds, h1, h2, fun D hD => ⟨(h3 D hD).1, hx.marks D (h3 D hD).2⟩⟩

structure Inv (G : Ctx) (S : LS) (K : Kept) (w : World) : Prop where
  below : Below G.base G.W0 w
  base : G.base ≤ w.heap.size
  live : ∀ b j, K b j → ∃ v, w.cell? ⟨b, j, none⟩ = some v
  box : ∀ b cs, S.box b = some cs → G.base ≤ b ∧ b < S.top ∧ ∃ c T, w.heap[b]? = some (.cells c T (0, 0)) ∧ c.size = cs.length ∧
    (∀ (j : Nat) x v, cs[j]? = some x → c[j]? = some v → Rep G w K x v) ∧ ∀ j, ¬ K b j
  row : ∀ b T n, S.row b = some (T, n) → G.base ≤ b ∧ b < S.top ∧ S.box b = none ∧ ∃ c, w.heap[b]? = some (.cells c T (0, 0)) ∧ ∀ j, n * G.P.cellsOf T ≤ j → ¬ K b j
  obj : ∀ b o, S.obj b = some o → G.base ≤ b ∧ b < S.top ∧ w.heap[b]? = some o ∧ o.isCells = false ∧ o ≠ .deferred (some [])
  top : S.top ≤ w.heap.size
  since : G.since K w

def RelT (G : Ctx) (w : World) (K : Kept) (n : Nat) (T : Nat → TV) (a : Act) : Prop := a.tmps.size = n ∧ ∀ i, RepT G w K (T i) (a.tmps.getD i undef)

theorem RelT.mono {G : Ctx} {w w' : World} {K K' : Kept} {n : Nat} {T : Nat → TV} {a : Act} (hx : Ext K w K' w') (h : RelT G w K n T a) : RelT G w' K' n T a :=
  ⟨h.1, fun i => (h.2 i).mono hx⟩

def upd (T : Nat → TV) (d : Nat) (r : TV) : Nat → TV := fun i => bif Nat.beq i d then r else T i

theorem upd_same (T : Nat → TV) (d : Nat) (r : TV) : upd T d r d = r := by simp [upd]
theorem upd_ne (T : Nat → TV) {d i : Nat} (r : TV) (h : i ≠ d) : upd T d r i = T i := by
  have : Nat.beq i d = false := by cases hb : Nat.beq i d with
    | false => rfl
    | true => exact absurd (Nat.eq_of_beq_eq_true hb) h
  simp [upd, this]

def putT (T : Nat → TV) (dst : Option Tmp) (r : TV) : Nat → TV := match dst with
  | some d => upd T d r
  | none => T

def dstOK (n : Nat) (dst : Option Tmp) : Bool := match dst with
  | some d => Nat.blt d n
  | none => true

theorem RelT.put {G : Ctx} {w : World} {K : Kept} {n : Nat} {T : Nat → TV} {a : Act} {dst : Option Tmp} {r : TV} {v : Value} (h : RelT G w K n T a)
    (hd : dstOK n dst = true) (hr : RepT G w K r v) : RelT G w K n (putT T dst r) (a.put dst v) := by
  cases dst with
  | none => exact h
  | some d =>
    have hd' : d < n := by simpa [dstOK, Nat.blt_eq] using hd
    refine ⟨by simp [Act.put, h.1], fun i => ?_⟩
    by_cases hi : i = d
    · subst hi
      simp only [putT, upd_same, Act.put]
      have : (a.tmps.setIfInBounds i v).getD i undef = v := by
        rw [Array.getD_eq_getD_getElem?]; simp [h.1, hd']
      rw [this]; exact hr
    · simp only [putT, upd_ne T r hi, Act.put]
      have : (a.tmps.setIfInBounds d v).getD i undef = a.tmps.getD i undef := by
        rw [Array.getD_eq_getD_getElem?, Array.getD_eq_getD_getElem?, Array.getElem?_setIfInBounds_ne (Ne.symm hi)]
      rw [this]; exact h.2 i

theorem put_defers (a : Act) (dst : Option Tmp) (v : Value) : (a.put dst v).defers = a.defers := by cases dst <;> rfl

/-- What holds behind a step. -/
def Post (G : Ctx) (m n : Nat) (K : Kept) (w : World) (Q : (Nat → TV) → LS → Prop) (a' : Act) (w' : World) : Prop :=
  ∃ T' S' K', Inv G S' K' w' ∧ RelT G w' K' n T' a' ∧ Marks m w' a'.defers ∧ Ext K w K' w' ∧ Q T' S'

theorem Post.trans {G : Ctx} {m n : Nat} {K K' : Kept} {w w' : World} {Q : (Nat → TV) → LS → Prop} {a' : Act} {w'' : World} (hx : Ext K w K' w') (h : Post G m n K' w' Q a' w'') : Post G m n K w Q a' w'' := by
  obtain ⟨T', S', K'', h1, h2, h3, h4, h5⟩ := h
  exact ⟨T', S', K'', h1, h2, h3, hx.trans h4, h5⟩

theorem Post.mono {G : Ctx} {m n : Nat} {K : Kept} {w : World} {Q Q' : (Nat → TV) → LS → Prop} {a' : Act} {w' : World} (hq : ∀ T S, Q T S → Q' T S) (h : Post G m n K w Q a' w') : Post G m n K w Q' a' w' := by
  obtain ⟨T', S', K'', h1, h2, h3, h4, h5⟩ := h
  exact ⟨T', S', K'', h1, h2, h3, h4, hq _ _ h5⟩

/-- The frames: of a function's own, or of a round of a range over a function. -/
def fen : Option Nat → Fence
  | none => Fence.wide
  | some l => Fence.wide.inRound l

theorem fen_fn (M : Option Nat) (f : FuncId) : (fen M).fn f := by cases M <;> trivial
theorem fen_depth (M : Option Nat) : (fen M).depth = none := by cases M <;> rfl
theorem fen_round (M : Option Nat) : (fen M).round = M := by cases M <;> rfl
theorem fen_fenced (M : Option Nat) (P : Program) : Machine.fenced P (fen M) = Machine.fenced P Fence.wide := by cases M <;> rfl
theorem fen_calls {M : Option Nat} {n : Nat} {P : Program} {f : FuncId} {args : Array Value} {w : World} {R : Ending → World → Prop} (h : Calls P f args w R) : CallsIn (fen M) n P f args w R := by
  cases M <;> exact callsIn_wide.2 h

/-- One operation. -/
def LStep (G : Ctx) (M : Option Nat) (n : Nat) (o : Oper) (Q : (Nat → TV) → LS → Prop) (T : Nat → TV) (S : LS) : Prop :=
  ∀ (m : Nat) K w a, Inv G S K w → RelT G w K n T a → Marks m w a.defers → o.wpIn (fen M) 0 G.P a w (Post G m n K w Q) (fun _ _ _ => False)

/-- A region's operations, in the text's order. -/
def LOps (G : Ctx) (M : Option Nat) (n : Nat) (ops : Array Oper) (l : List Oper) (Q : (Nat → TV) → LS → Prop) (T : Nat → TV) (S : LS) : Prop :=
  ∀ (m : Nat) K w a, Inv G S K w → RelT G w K n T a → Marks m w a.defers → wpListIn (fen M) 0 G.P ops (fun e a' w' => e = .normal ∧ Post G m n K w Q a' w') l a w

def LWp (G : Ctx) (M : Option Nat) (n : Nat) (c : Code) (Q : Exit → (Nat → TV) → LS → Prop) (T : Nat → TV) (S : LS) : Prop :=
  ∀ (m : Nat) K w a, Inv G S K w → RelT G w K n T a → Marks m w a.defers → c.wpIn (fen M) 0 G.P (fun e a' w' => Post G m n K w (Q e) a' w') a w

def ArgsRel (G : Ctx) (w : World) (K : Kept) (args : List TV) (vals : Array Value) : Prop :=
  vals.size = args.length ∧ ∀ (i : Nat) x v, args[i]? = some x → vals[i]? = some v → RepT G w K x v

def LCalls (G : Ctx) (f : FuncId) (args : List TV) (Q : TV → LS → Prop) (S : LS) : Prop :=
  ∀ K w vals, Inv G S K w → ArgsRel G w K args vals → Calls G.P f vals w fun e w' =>
    ∃ r v S' K', e = .returned v ∧ RepT G w' K' r v ∧ Inv G S' K' w' ∧ Ext K w K' w' ∧ Q r S'

theorem upon_mono {P : Program} {o : Oper} {a : Act} {N N' : Act → World → Prop} {Q Q' : Exit → Act → World → Prop} {r : Result Next}
    (hn : ∀ a w, N a w → N' a w) (hq : ∀ e a w, Q e a w → Q' e a w) (h : o.upon P a N Q r) : o.upon P a N' Q' r := by
  unfold Oper.upon at *
  split at h
  · exact hn _ _ h
  · exact hn _ _ h
  · exact hn _ _ h
  · refine h.mono fun e w' he => ?_
    cases e with
    | returned v => exact hn _ _ he
    | panicked c => exact hq _ _ _ he
    | outgrown => obtain ⟨a0, w0, h0⟩ := he; exact ⟨a0, w0, hq _ _ _ h0⟩
  · exact h.mono fun v w' he => hn _ _ he
  · exact hq _ _ _ h
  · exact h.elim

theorem uponIn_mono {F : Fence} {n : Nat} {P : Program} {o : Oper} {a : Act} {N N' : Act → World → Prop} {Q Q' : Exit → Act → World → Prop} {r : Result Next}
    (hn : ∀ a w, N a w → N' a w) (hq : ∀ e a w, Q e a w → Q' e a w) (h : o.uponIn F n P a N Q r) : o.uponIn F n P a N' Q' r := by
  unfold Oper.uponIn at *
  split at h
  · exact hn _ _ h
  · exact hn _ _ h
  · exact hn _ _ h
  · refine ⟨h.1, h.2.1, fun cs hr => ?_⟩
    obtain ⟨e, w', fr, he, rest⟩ := h.2.2 cs hr
    refine ⟨e, w', fr, ?_, rest⟩
    cases e with
    | returned v => exact hn _ _ he
    | panicked c => exact hq _ _ _ he
    | outgrown => obtain ⟨a0, w0, h0⟩ := he; exact ⟨a0, w0, hq _ _ _ h0⟩
  · exact ⟨h.1, h.2.mono fun v w' he => hn _ _ he⟩
  · refine ⟨h.1, h.2.mono fun e w' he => ?_⟩
    cases e with
    | returned v => exact hn _ _ he
    | panicked c => exact hq _ _ _ he
    | outgrown => obtain ⟨a0, w0, h0⟩ := he; exact ⟨a0, w0, hq _ _ _ h0⟩
  · exact hq _ _ _ h
  · exact h.elim

theorem wpListIn_mono {F : Fence} {n : Nat} {P : Program} {ops : Array Oper} {Q Q' : Exit → Act → World → Prop} (hq : ∀ e a w, Q e a w → Q' e a w) :
    ∀ (l : List Oper) (a : Act) (w : World), wpListIn F n P ops Q l a w → wpListIn F n P ops Q' l a w := by
  intro l
  induction l with
  | nil => exact fun a w h => hq _ _ _ h
  | cons o l ih =>
    intro a w h
    have e : ∀ Q : Exit → Act → World → Prop, wpListIn F n P ops Q (o :: l) a w = if Region.wanted o (yielded ops a.tmps) then o.wpIn F n P a w (wpListIn F n P ops Q l) Q else (∀ f, o.about P w a.eval = some f → F.fn f) ∧ wpListIn F n P ops Q l (a.put o.dst undef) w := fun _ => rfl
    rw [e] at h ⊢
    split at h
    · rename_i hw
      rw [if_pos hw]
      exact ⟨h.1, uponIn_mono ih hq h.2⟩
    · rename_i hw
      rw [if_neg hw]
      exact ⟨h.1, ih _ _ h.2⟩

/-- An operation that gives a value is met in whatever frame. -/
theorem wpIn_of_wp {M : Option Nat} {P : Program} {o : Oper} {a : Act} {w : World} {N N' : Act → World → Prop} {Q : Exit → Act → World → Prop} (h : o.wp P a w N (fun _ _ _ => False))
    (hn : ∀ a' w', N a' w' → a'.defers = a.defers ∧ N' a' w') : o.wpIn (fen M) 0 P a w N' Q := by
  refine ⟨fun f _ => fen_fn M f, ?_⟩
  have hnd : ∀ c, o.op ≠ .defer c := by
    intro c hc
    unfold Oper.wp execOp at h
    simp only [hc, Sem.run_bind] at h
    cases hr : (resolve a.eval c o.type).run P w with
    | halt x w' =>
      rw [hr] at h
      cases x <;> exact h
    | ok d w' =>
      rw [hr] at h
      have h2 := (hn _ _ h).1
      cases hd : o.dst <;> simp [Act.put, hd] at h2
  have hs : o.semAt (fen M).round a.eval = execOp a.eval o := Oper.semAt_eq _ _ _ hnd
  rw [hs]
  unfold Oper.wp at h
  generalize (execOp a.eval o).run P w = r at h
  unfold Oper.upon at h
  unfold Oper.uponIn
  split at h
  · exact (hn _ _ h).2
  · exact (hn _ _ h).2
  · exact (hn _ _ h).2
  · refine ⟨fun hd => by simp [fen_depth] at hd, fen_calls (h.mono fun e w' he => ?_)⟩
    cases e with
    | returned v => exact (hn _ _ he).2
    | panicked c => exact he.elim
    | outgrown => obtain ⟨a0, w0, h0⟩ := he; exact h0.elim
  · rename_i row args w' 
    refine ⟨fun hd => by simp [fen_depth] at hd, fun c cs _ => ?_⟩
    obtain ⟨v, w2, hv, hs⟩ := h c cs
    refine ⟨v, w2, (hn _ _ hv).2, ?_⟩
    rw [fen_fenced]
    exact stepsIn_wide.2 hs
  · exact h.elim
  · exact h.elim

theorem LStep.mono {G : Ctx} {M : Option Nat} {n : Nat} {o : Oper} {Q Q' : (Nat → TV) → LS → Prop} {T : Nat → TV} {S : LS} (hq : ∀ T S, Q T S → Q' T S) (h : LStep G M n o Q T S) : LStep G M n o Q' T S :=
  fun m K w a h1 h2 h3 => ⟨(h m K w a h1 h2 h3).1, uponIn_mono (fun _ _ hp => hp.mono hq) (fun _ _ _ h => h) (h m K w a h1 h2 h3).2⟩

theorem LOps.nil {G : Ctx} {M : Option Nat} {n : Nat} {ops : Array Oper} {Q : (Nat → TV) → LS → Prop} {T : Nat → TV} {S : LS} (h : Q T S) : LOps G M n ops [] Q T S :=
  fun _ K w _ h1 h2 h3 => ⟨rfl, T, S, K, h1, h2, h3, Ext.refl K w, h⟩

/-- What a guard says: the operation is done, or not. -/
def wantedT (ops : Array Oper) (T : Nat → TV) (o : Oper) : Option Bool :=
  match o.guard with
  | none => some true
  | some (j, want) => match (ops[j]?).bind (·.dst) with
    | none => none
    | some d => match T d with
      | .one (.v (.bool b)) => some (b == want)
      | .tup _ => some false
      | .when g (.one (.v (.bool b))) => some (g && (b == want))
      | _ => none

theorem wanted_of {G : Ctx} {w : World} {K : Kept} {n : Nat} {T : Nat → TV} {a : Act} (h : RelT G w K n T a) {ops : Array Oper} {o : Oper} {b : Bool} (hw : wantedT ops T o = some b) :
    Region.wanted o (yielded ops a.tmps) = b := by
  unfold wantedT at hw
  unfold Region.wanted
  cases hg : o.guard with
  | none => rw [hg] at hw; simpa using hw
  | some jw =>
    obtain ⟨j, want⟩ := jw
    rw [hg] at hw
    simp only at hw ⊢
    cases hd : (ops[j]?).bind (·.dst) with
    | none => rw [hd] at hw; simp at hw
    | some d =>
      rw [hd] at hw
      simp only at hw
      have hr := h.2 d
      cases ht : T d with
      | one x =>
        rw [ht] at hw hr
        cases x with
        | v x =>
          cases x with
          | bool c =>
            simp only [Option.some.injEq] at hw
            cases hr with
            | one hr =>
              generalize hv : a.tmps.getD d undef = v at hr
              cases hr
              have hy : yielded ops a.tmps j = some c := by
                unfold yielded
                rw [hd]
                simp only [Option.bind_some]
                rw [Array.getD_eq_getD_getElem?] at hv
                cases h2 : a.tmps[d]? with
                | none => rw [h2] at hv; simp [undef] at hv
                | some u => rw [h2] at hv; simp at hv; subst hv; rfl
              rw [hy, ← hw]
              cases c <;> cases want <;> rfl
          | _ => simp at hw
        | _ => simp at hw
      | tup l =>
        rw [ht] at hw hr
        obtain rfl : false = b := by simpa using hw
        generalize hv : a.tmps.getD d undef = v at hr
        cases hr with
        | tup _ vs _ _ =>
          have hy : yielded ops a.tmps j = none := by
            unfold yielded
            rw [hd]
            simp only [Option.bind_some]
            rw [Array.getD_eq_getD_getElem?] at hv
            cases h2 : a.tmps[d]? with
            | none => rfl
            | some u => rw [h2] at hv; simp at hv; subst hv; rfl
          rw [hy]; cases want <;> rfl
      | when g r =>
        rw [ht] at hw hr
        cases r with
        | one x =>
          cases x with
          | v x =>
            cases x with
            | bool c =>
              simp only [Option.some.injEq] at hw
              generalize hv : a.tmps.getD d undef = v at hr
              cases hr with
              | when _ _ _ h1 h0 =>
                cases g with
                | false =>
                  have hvu := h0 rfl
                  have hy : yielded ops a.tmps j = none := by
                    unfold yielded
                    rw [hd]
                    simp only [Option.bind_some]
                    rw [Array.getD_eq_getD_getElem?] at hv
                    cases h2 : a.tmps[d]? with
                    | none => rfl
                    | some u => rw [h2] at hv; simp at hv; subst hv; rw [hvu]; rfl
                  rw [hy, ← hw]; cases want <;> rfl
                | true =>
                  have hvb := h1 rfl
                  have hvv : v = .bool c := by
                    cases hvb with
                    | one h => cases h; rfl
                  have hy : yielded ops a.tmps j = some c := by
                    unfold yielded
                    rw [hd]
                    simp only [Option.bind_some]
                    rw [Array.getD_eq_getD_getElem?] at hv
                    cases h2 : a.tmps[d]? with
                    | none => rw [h2, hvv] at hv; simp [undef] at hv
                    | some u => rw [h2] at hv; simp at hv; subst hv; rw [hvv]
                  rw [hy, ← hw]
                  cases c <;> cases want <;> rfl
            | _ => simp at hw
          | _ => simp at hw
        | _ => simp at hw
      | _ => rw [ht] at hw; simp at hw

theorem LOps.stepG {G : Ctx} {M : Option Nat} {n : Nat} {ops : Array Oper} {o : Oper} {l : List Oper} {Q : (Nat → TV) → LS → Prop} {T : Nat → TV} {S : LS} (hg : wantedT ops T o = some true)
    (h : LStep G M n o (LOps G M n ops l Q) T S) : LOps G M n ops (o :: l) Q T S := by
  intro m K w a h1 h2 h3
  unfold wpListIn
  rw [if_pos (wanted_of h2 hg)]
  obtain ⟨h4, h5⟩ := h m K w a h1 h2 h3
  refine ⟨h4, uponIn_mono (fun a' w' hp => ?_) (fun _ _ _ h => h.elim) h5⟩
  obtain ⟨T', S', K', i1, i2, i3, i4, i5⟩ := hp
  exact wpListIn_mono (fun e a w ⟨he, hp⟩ => ⟨he, hp.trans i4⟩) _ _ _ (i5 m K' w' a' i1 i2 i3)

theorem LOps.step {G : Ctx} {M : Option Nat} {n : Nat} {ops : Array Oper} {o : Oper} {l : List Oper} {Q : (Nat → TV) → LS → Prop} {T : Nat → TV} {S : LS} (hg : o.guard = none)
    (h : LStep G M n o (LOps G M n ops l Q) T S) : LOps G M n ops (o :: l) Q T S := .stepG (by simp [wantedT, hg]) h

theorem LOps.skip {G : Ctx} {M : Option Nat} {n : Nat} {ops : Array Oper} {o : Oper} {l : List Oper} {Q : (Nat → TV) → LS → Prop} {T : Nat → TV} {S : LS} (hg : wantedT ops T o = some false)
    (hd : dstOK n o.dst = true) (h : LOps G M n ops l Q (putT T o.dst (.tup [])) S) : LOps G M n ops (o :: l) Q T S := by
  intro m K w a h1 h2 h3
  unfold wpListIn
  rw [if_neg (by rw [wanted_of h2 hg]; simp)]
  exact ⟨fun f _ => fen_fn M f, h m K w _ h1 (h2.put hd (.tup [] #[] rfl (by simp))) (by rw [put_defers]; exact h3)⟩

end Go.Proofs.Ytgkjhlmfgaaddaa.LF
end

section
/- Short names of cells. -/
namespace Go.Proofs.Ytgkjhlmfgaaddaa.LF
open Go.RowKit
abbrev iv (x : Int) : LV := .v (.int .i64 x)
abbrev sv (x : ByteArray) : LV := .v (.string x)
abbrev bv (x : Bool) : LV := .v (.bool x)
abbrev uv (x : Int) : LV := .v (.int .u8 x)
abbrev noBytes : ByteArray := { data := #[] }
abbrev ptr (b : Nat) : TV := .one (.v (.pointer (some ⟨b, 0, none⟩)))
end Go.Proofs.Ytgkjhlmfgaaddaa.LF
end

section
/- The frame's rules for code: sequence, test, block, loop, region, the entering of a function. -/
namespace Go.Proofs.Ytgkjhlmfgaaddaa.LF
open Go.RowKit
set_option linter.unusedVariables false

/-- Forgetting whose slices are. -/
def shLV : LV → LV
  | .sl _ es => .sl .sh es
  | x => x

def shTV : TV → TV
  | .one x => .one (shLV x)
  | .agg l => .agg (l.map shLV)
  | .tup [a] => .tup [shTV a]
  | .tup [a, b] => .tup [shTV a, shTV b]
  | .tup [a, b, c] => .tup [shTV a, shTV b, shTV c]
  | x => x

theorem Rep.shLV {G : Ctx} {w : World} {K : Kept} {x : LV} {v : Value} (h : Rep G w K x v) : Rep G w K (shLV x) v := by
  cases x with
  | v x => exact h
  | sl o es => exact h.share
  | p l => exact h

theorem RepT.shTV {G : Ctx} {w : World} {K : Kept} {x : TV} {v : Value} (h : RepT G w K x v) : RepT G w K (shTV x) v := by
  induction h with
  | one h => exact .one h.shLV
  | agg l vs hs h =>
    refine .agg _ _ (by simpa using hs) fun j x v hj hv => ?_
    rw [List.getElem?_map] at hj
    cases hq : l[j]? with
    | none => rw [hq] at hj; cases hj
    | some y =>
      rw [hq] at hj
      obtain rfl : LF.shLV y = x := by simpa using hj
      exact (h j y v hq hv).shLV
  | tup l vs hs h ih =>
    have key : ∀ l' : List TV, l'.length = l.length → (∀ (j : Nat) x y, l[j]? = some x → l'[j]? = some y → y = LF.shTV x) → RepT G w K (.tup l') (.tuple vs) := by
      intro l' hl' hj'
      refine .tup _ _ (by omega) fun j y v hy hv => ?_
      have hlt := (List.getElem?_eq_some_iff.1 hy).1
      have := hj' j _ y (List.getElem?_eq_getElem (by omega)) hy
      rw [this]
      exact ih j _ v (List.getElem?_eq_getElem (by omega)) hv
    match l, key with
    | [], _ => exact .tup _ _ hs h
    | [a], key => exact key [LF.shTV a] rfl (fun j x y hx hy => by cases j <;> simp_all)
    | [a, b], key => exact key [LF.shTV a, LF.shTV b] rfl (fun j x y hx hy => by
        match j with
        | 0 => simp_all
        | 1 => simp_all
        | j + 2 => simp at hx)
    | [a, b, c], key => exact key [LF.shTV a, LF.shTV b, LF.shTV c] rfl (fun j x y hx hy => by
        match j with
        | 0 => simp_all
        | 1 => simp_all
        | 2 => simp_all
        | j + 3 => simp at hx)
    | a :: b :: c :: d :: l, _ => exact .tup _ _ hs h
  | ro l b off c h hr => exact .ro l b off c h hr
  | any v => exact .any v
  | when b r v h1 h0 ih => exact .when b r v h1 h0

def constLV : Value → LV
  | .slice none 0 0 => .sl .nil []
  | x => .v x

def constTV : Value → TV
  | .agg cs => bif cs.toList.all Value.oneCell' then .agg (cs.toList.map constLV) else .any
  | .tuple _ => .any
  | x => .one (constLV x)

theorem constLV_rep (G : Ctx) (w : World) (K : Kept) (x : Value) (h : x.oneCell' = true) : Rep G w K (constLV x) x := by
  unfold constLV
  split
  · exact .nil
  · exact .raw _ h

theorem constTV_rep (G : Ctx) (w : World) (K : Kept) (x : Value) : RepT G w K (constTV x) x := by
  unfold constTV
  split
  · rename_i cs
    cases hall : cs.toList.all Value.oneCell' with
    | false => exact .any _
    | true =>
    refine .agg _ _ (by simp) fun j x v hj hv => ?_
    rw [List.getElem?_map] at hj
    have : cs.toList[j]? = some v := by simpa using hv
    rw [this] at hj
    simp only [Option.map_some, Option.some.injEq] at hj
    subst hj
    exact constLV_rep G w K v (List.all_eq_true.1 hall v (List.mem_of_getElem? this))
  · exact .any _
  · rename_i h1 h2
    exact .one (constLV_rep G w K _ (by cases x <;> first | rfl | exact absurd rfl (h1 _) | exact absurd rfl (h2 _)))

def lev (T : Nat → TV) : Operand → TV
  | .tmp t => T t
  | .const v => constTV v
  | .global g => .one (.v (.pointer (some ⟨g, 0, none⟩)))
  | .func f => .one (.v (.func (.func f) #[] #[]))

theorem RelT.eval {G : Ctx} {w : World} {K : Kept} {n : Nat} {T : Nat → TV} {a : Act} (h : RelT G w K n T a) (x : Operand) : RepT G w K (lev T x) (a.eval x) := by
  cases x with
  | tmp t => exact h.2 t
  | const v => exact constTV_rep G w K v
  | global g => exact .one (.raw _ rfl)
  | func f => exact .one (.raw _ rfl)

/-- An operation that gives a value and turns nothing of the logical memory. -/
def LVal (G : Ctx) (o : Oper) (T : Nat → TV) (S : LS) (r : TV) : Prop :=
  ∀ K w a, Inv G S K w → (∀ x ∈ o.op.operands, RepT G w K (lev T x) (a.eval x)) →
    o.wp G.P a w (fun a' w' => ∃ v K', a' = a.put o.dst v ∧ RepT G w' K' r v ∧ Inv G S K' w' ∧ Ext K w K' w') (fun _ _ _ => False)

/-- An operation that turns the logical memory. -/
def LDo (G : Ctx) (o : Oper) (T : Nat → TV) (S : LS) (R : TV → LS → Prop) : Prop :=
  ∀ K w a, Inv G S K w → (∀ x ∈ o.op.operands, RepT G w K (lev T x) (a.eval x)) →
    o.wp G.P a w (fun a' w' => ∃ r v S' K', a' = a.put o.dst v ∧ RepT G w' K' r v ∧ Inv G S' K' w' ∧ Ext K w K' w' ∧ R r S') (fun _ _ _ => False)

theorem LVal.congr {G : Ctx} {o : Oper} {T T' : Nat → TV} {S : LS} {r : TV} (h : LVal G o T S r) (hT : ∀ x ∈ o.op.operands, lev T x = lev T' x) : LVal G o T' S r :=
  fun K w a hi hr => h K w a hi fun x hx => by rw [hT x hx]; exact hr x hx

theorem LVal.do {G : Ctx} {o : Oper} {T : Nat → TV} {S : LS} {r : TV} {R : TV → LS → Prop} (h : LVal G o T S r) (hR : R r S) : LDo G o T S R :=
  fun K w a hi hr => upon_mono (fun _ _ ⟨v, K', h1, h2, h3, h4⟩ => ⟨r, v, S, K', h1, h2, h3, h4, hR⟩) (fun _ _ _ h => h) (h K w a hi hr)

theorem LDo.step {G : Ctx} {M : Option Nat} {n : Nat} {o : Oper} {Q : (Nat → TV) → LS → Prop} {T : Nat → TV} {S : LS} {R : TV → LS → Prop} (h : LDo G o T S R) (hd : dstOK n o.dst = true)
    (hq : ∀ r S', R r S' → Q (putT T o.dst r) S') : LStep G M n o Q T S := by
  intro m K w a hi ht hf
  refine wpIn_of_wp (h K w a hi fun x _ => ht.eval x) fun a' w' hp => ?_
  obtain ⟨r, v, S', K', rfl, h2, h3, h4, h5⟩ := hp
  exact ⟨put_defers _ _ _, _, S', K', h3, (ht.mono h4).put hd h2, by rw [put_defers]; exact hf.mono h4, h4, hq _ _ h5⟩

theorem LOps.val {G : Ctx} {M : Option Nat} {n : Nat} {ops : Array Oper} {o : Oper} {l : List Oper} {Q : (Nat → TV) → LS → Prop} {T : Nat → TV} {S : LS} {r : TV} {d : Nat} (h : LVal G o T S r)
    (hg : o.guard = none) (hd : o.dst = some d) (hn : Nat.blt d n = true) (k : LOps G M n ops l Q (upd T d r) S) : LOps G M n ops (o :: l) Q T S :=
  .step hg (LDo.step (R := fun r' S' => r' = r ∧ S' = S) (h.do ⟨rfl, rfl⟩) (by rw [hd]; exact hn) (by rintro _ _ ⟨rfl, rfl⟩; rw [hd]; exact k))

theorem LOps.valG {G : Ctx} {M : Option Nat} {n : Nat} {ops : Array Oper} {o : Oper} {l : List Oper} {Q : (Nat → TV) → LS → Prop} {T : Nat → TV} {S : LS} {r : TV} {d : Nat} (h : LVal G o T S r)
    (hg : wantedT ops T o = some true) (hd : o.dst = some d) (hn : Nat.blt d n = true) (k : LOps G M n ops l Q (upd T d r) S) : LOps G M n ops (o :: l) Q T S :=
  .stepG hg (LDo.step (R := fun r' S' => r' = r ∧ S' = S) (h.do ⟨rfl, rfl⟩) (by rw [hd]; exact hn) (by rintro _ _ ⟨rfl, rfl⟩; rw [hd]; exact k))

theorem LOps.out {G : Ctx} {M : Option Nat} {n : Nat} {ops : Array Oper} {o : Oper} {l : List Oper} {Q : (Nat → TV) → LS → Prop} {T : Nat → TV} {S : LS} {d : Nat} (hg : wantedT ops T o = some false)
    (hd : o.dst = some d) (hn : Nat.blt d n = true) (h : LOps G M n ops l Q (upd T d (.tup [])) S) : LOps G M n ops (o :: l) Q T S :=
  .skip hg (by rw [hd]; exact hn) (by rw [hd]; exact h)

theorem LOps.do {G : Ctx} {M : Option Nat} {n : Nat} {ops : Array Oper} {o : Oper} {l : List Oper} {Q : (Nat → TV) → LS → Prop} {T : Nat → TV} {S : LS} {R : TV → LS → Prop} {d : Nat} (h : LDo G o T S R)
    (hg : wantedT ops T o = some true) (hd : o.dst = some d) (hn : Nat.blt d n = true) (k : ∀ r S', R r S' → LOps G M n ops l Q (upd T d r) S') : LOps G M n ops (o :: l) Q T S :=
  .stepG hg (h.step (by rw [hd]; exact hn) (fun r S' hr => by rw [hd]; exact k r S' hr))

theorem LOps.do0 {G : Ctx} {M : Option Nat} {n : Nat} {ops : Array Oper} {o : Oper} {l : List Oper} {Q : (Nat → TV) → LS → Prop} {T : Nat → TV} {S : LS} {R : TV → LS → Prop} (h : LDo G o T S R)
    (hg : wantedT ops T o = some true) (hd : o.dst = none) (k : ∀ r S', R r S' → LOps G M n ops l Q T S') : LOps G M n ops (o :: l) Q T S :=
  .stepG hg (h.step (by rw [hd]; rfl) (fun r S' hr => by rw [hd]; exact k r S' hr))

/-- A guard whose answer is open. -/
theorem LOps.guard {G : Ctx} {M : Option Nat} {n : Nat} {ops : Array Oper} {o : Oper} {l : List Oper} {Q : (Nat → TV) → LS → Prop} {T : Nat → TV} {S : LS} {d j : Nat} {w b : Bool} (_hj : o.guard = some (j, w)) (_hd : (ops[j]?).bind (·.dst) = some d)
    (hb : T d = .one (.v (.bool b))) (ht : b = true → LOps G M n ops (o :: l) Q (upd T d (.one (.v (.bool true)))) S) (hf : b = false → LOps G M n ops (o :: l) Q (upd T d (.one (.v (.bool false)))) S) : LOps G M n ops (o :: l) Q T S := by
  have e : T = upd T d (.one (.v (.bool b))) := by
    funext i
    by_cases h : i = d
    · subst h; rw [upd_same, hb]
    · rw [upd_ne _ _ h]
  rw [e]
  cases b
  · exact hf rfl
  · exact ht rfl

/-- A loop whose relation bears a number that each round lowers. -/
theorem wpIn_loop_num {F : Fence} {rm : Nat} {P : Program} {Q : Exit → Act → World → Prop} {a : Act} {w : World} {c : Code} (I : Nat → Act → World → Prop) (n₀ : Nat) (h₀ : I n₀ a w)
    (round : ∀ n a w, I n a w → c.wpIn F rm P (Exit.then (fun a' w' => ∃ n', n' < n ∧ I n' a' w') Q) a w) : (Code.loop c).wpIn F rm P Q a w := by
  refine wpIn_loop (fun a w => ∃ n, I n a w) (fun a w => leastOf (fun n => I n a w)) ⟨n₀, h₀⟩ ?_
  intro a w hI
  refine wpIn_mono (round _ a w (leastOf_spec hI).1) ?_
  intro e a' w' hq
  cases e with
  | normal =>
    obtain ⟨n', hlt, hI'⟩ := hq
    exact ⟨⟨n', hI'⟩, Nat.lt_of_le_of_lt ((leastOf_spec ⟨n', hI'⟩).2 n' hI') hlt⟩
  | _ => exact hq

section code
variable {G : Ctx} {M : Option Nat} {n : Nat} {Q : Exit → (Nat → TV) → LS → Prop} {T : Nat → TV} {S : LS}

def andThen (next : (Nat → TV) → LS → Prop) (Q : Exit → (Nat → TV) → LS → Prop) : Exit → (Nat → TV) → LS → Prop
  | .normal => next
  | e => Q e

theorem LWp.mono {c : Code} {Q' : Exit → (Nat → TV) → LS → Prop} (hq : ∀ e T S, Q e T S → Q' e T S) (h : LWp G M n c Q T S) : LWp G M n c Q' T S :=
  fun m K w a h1 h2 h3 => wpIn_mono (h m K w a h1 h2 h3) fun e _ _ hp => hp.mono (hq e)

theorem LWp.seq {x y : Code} (h : LWp G M n x (andThen (LWp G M n y Q) Q) T S) : LWp G M n (.seq x y) Q T S := by
  intro m K w a h1 h2 h3
  refine wpIn_seq (wpIn_mono (h m K w a h1 h2 h3) fun e a' w' hp => ?_)
  cases e with
  | normal =>
    obtain ⟨T', S', K', i1, i2, i3, i4, i5⟩ := hp
    exact wpIn_mono (i5 m K' w' a' i1 i2 i3) fun e a w hp => hp.trans i4
  | _ => exact hp

theorem LWp.skip (h : Q .normal T S) : LWp G M n .skip Q T S := fun _ K w _ h1 h2 h3 => wpIn_skip ⟨T, S, K, h1, h2, h3, .refl _ _, h⟩
theorem LWp.exit {id : Nat} (h : Q (.exit id) T S) : LWp G M n (.exit id) Q T S := fun _ K w _ h1 h2 h3 => wpIn_exit ⟨T, S, K, h1, h2, h3, .refl _ _, h⟩
theorem LWp.ret (h : Q .ret T S) : LWp G M n .ret Q T S := fun _ K w _ h1 h2 h3 => wpIn_ret ⟨T, S, K, h1, h2, h3, .refl _ _, h⟩

theorem LWp.cond {c : Operand} {x y : Code} {b : Bool} (hc : lev T c = .one (.v (.bool b))) (ht : b = true → LWp G M n x Q T S) (hf : b = false → LWp G M n y Q T S) : LWp G M n (.cond c x y) Q T S := by
  intro m K w a h1 h2 h3
  have he := h2.eval c
  rw [hc] at he
  have hv : a.eval c = .bool b := by
    generalize a.eval c = v at he
    cases he with
    | one h => cases h; rfl
  exact wpIn_cond_split hv (fun hb => ht hb m K w a h1 h2 h3) (fun hb => hf hb m K w a h1 h2 h3)

theorem LWp.condT {c : Operand} {x y : Code} (hc : lev T c = .one (.v (.bool true))) (h : LWp G M n x Q T S) : LWp G M n (.cond c x y) Q T S :=
  .cond hc (fun _ => h) (fun h => by cases h)
theorem LWp.condF {c : Operand} {x y : Code} (hc : lev T c = .one (.v (.bool false))) (h : LWp G M n y Q T S) : LWp G M n (.cond c x y) Q T S :=
  .cond hc (fun h => by cases h) (fun _ => h)

def inBlock (id : Nat) (Q : Exit → (Nat → TV) → LS → Prop) : Exit → (Nat → TV) → LS → Prop
  | .exit id', T, S => if id' = id then Q .normal T S else Q (.exit id') T S
  | e, T, S => Q e T S

theorem andThen_normal {next : (Nat → TV) → LS → Prop} {Q : Exit → (Nat → TV) → LS → Prop} {T : Nat → TV} {S : LS} (h : next T S) : andThen next Q .normal T S := h
theorem andThen_exit {next : (Nat → TV) → LS → Prop} {Q : Exit → (Nat → TV) → LS → Prop} {T : Nat → TV} {S : LS} {i : Nat} (h : Q (.exit i) T S) : andThen next Q (.exit i) T S := h
theorem andThen_ret {next : (Nat → TV) → LS → Prop} {Q : Exit → (Nat → TV) → LS → Prop} {T : Nat → TV} {S : LS} (h : Q .ret T S) : andThen next Q .ret T S := h
theorem inBlock_normal {id : Nat} {Q : Exit → (Nat → TV) → LS → Prop} {T : Nat → TV} {S : LS} (h : Q .normal T S) : inBlock id Q .normal T S := h
theorem inBlock_ret {id : Nat} {Q : Exit → (Nat → TV) → LS → Prop} {T : Nat → TV} {S : LS} (h : Q .ret T S) : inBlock id Q .ret T S := h
theorem inBlock_here {id : Nat} {Q : Exit → (Nat → TV) → LS → Prop} {T : Nat → TV} {S : LS} (h : Q .normal T S) : inBlock id Q (.exit id) T S := by simpa [inBlock] using h
theorem inBlock_out {id i : Nat} {Q : Exit → (Nat → TV) → LS → Prop} {T : Nat → TV} {S : LS} (hi : (i == id) = false) (h : Q (.exit i) T S) : inBlock id Q (.exit i) T S := by
  have : i ≠ id := by simpa using hi
  simpa [inBlock, this] using h

theorem LWp.block {id : Nat} {c : Code} (h : LWp G M n c (inBlock id Q) T S) : LWp G M n (.block id c) Q T S := by
  intro m K w a h1 h2 h3
  refine wpIn_block (wpIn_mono (h m K w a h1 h2 h3) fun e a' w' hp => ?_)
  cases e with
  | exit id' =>
    simp only [Exit.inBlock]
    split
    · rename_i he; subst he; exact hp.mono fun T S h => by simpa [inBlock] using h
    · rename_i he; exact hp.mono fun T S h => by simpa [inBlock, he] using h
  | _ => exact hp

theorem LWp.loop {c : Code} (I : Nat → (Nat → TV) → LS → Prop) (k₀ : Nat) (h₀ : I k₀ T S)
    (round : ∀ k T S, I k T S → LWp G M n c (andThen (fun T' S' => ∃ k', k' < k ∧ I k' T' S') Q) T S) : LWp G M n (.loop c) Q T S := by
  intro m K w a h1 h2 h3
  refine wpIn_loop_num (fun k a' w' => Post G m n K w (I k) a' w') k₀ ⟨T, S, K, h1, h2, h3, .refl _ _, h₀⟩ fun k a' w' hp => ?_
  obtain ⟨T', S', K', i1, i2, i3, i4, i5⟩ := hp
  refine wpIn_mono (round k T' S' i5 m K' w' a' i1 i2 i3) fun e a'' w'' hq => ?_
  cases e with
  | normal =>
    obtain ⟨T2, S2, K2, j1, j2, j3, j4, k', hk, j5⟩ := hq
    exact ⟨k', hk, T2, S2, K2, j1, j2, j3, i4.trans j4, j5⟩
  | _ => exact hq.trans i4

theorem LWp.region {id : Nat} {ops : List Oper} (h : LOps G M n ops.toArray ops (Q .normal) T S) : LWp G M n (.region id ops.toArray false) Q T S := by
  intro m K w a h1 h2 h3
  refine wpIn_region_lit (wpListIn_mono (fun e a w hp => ?_) _ _ _ (h m K w a h1 h2 h3))
  obtain ⟨rfl, hp⟩ := hp
  exact hp
end code

/-- The results of a function, out of its slots and its memory. -/
def LRes (G : Ctx) (n : Nat) (fn : Func) (T : Nat → TV) (S : LS) (r : TV) : Prop :=
  ∀ K w a, Inv G S K w → RelT G w K n T a → ∃ v, (results fn a.tmps).run G.P w = .ok v w ∧ RepT G w K r v

theorem LRes.none {G : Ctx} {n : Nat} {fn : Func} {T : Nat → TV} {S : LS} (h : fn.results = #[]) : LRes G n fn T S (.tup []) :=
  fun K w a _ _ => ⟨_, results_none h _ _ _, .tup [] #[] rfl (by simp)⟩

theorem LRes.one {G : Ctx} {n : Nat} {fn : Func} {T : Nat → TV} {S : LS} {t : Tmp} (h : fn.results = #[.tmp t]) : LRes G n fn T S (T t) :=
  fun K w a _ hr => ⟨_, results_tmp h _ _ _, hr.2 t⟩

theorem LRes.two {G : Ctx} {n : Nat} {fn : Func} {T : Nat → TV} {S : LS} {t u : Tmp} (h : fn.results = #[.tmp t, .tmp u]) : LRes G n fn T S (.tup [T t, T u]) :=
  fun K w a _ hr => ⟨_, results_tmp2 h _ _ _, .tup _ _ rfl fun j x v hj hv => by
    match j with
    | 0 =>
      obtain rfl : T t = x := by simpa using hj
      obtain rfl : a.tmps.getD t undef = v := by simpa using hv
      exact hr.2 t
    | 1 =>
      obtain rfl : T u = x := by simpa using hj
      obtain rfl : a.tmps.getD u undef = v := by simpa using hv
      exact hr.2 u
    | j + 2 => simp at hj⟩

/-- Behind the body: the results satisfy what is asked. -/
def LBody (G : Ctx) (n : Nat) (fn : Func) (Q : TV → LS → Prop) : Exit → (Nat → TV) → LS → Prop
  | .normal, T, S => ∃ r, LRes G n fn T S r ∧ Q r S
  | .ret, T, S => ∃ r, LRes G n fn T S r ∧ Q r S
  | _, _, _ => False

def argT (args : List TV) : Nat → TV := fun i => args.getD i .any

theorem Ext.closeMark {K K' : Kept} {w w' : World} {D : Nat} {o : Obj} (h : Ext K w K' w') (hD : w.heap.size ≤ D) (ho : w'.heap[D]? = some (.deferred (some []))) (hk : ∀ j, ¬ K' D j) (hc : o.isCells = false) : Ext K w K' (w'.putObj D o) where
  kept := fun b j hb => by
    obtain ⟨h1, h2⟩ := h.kept b j hb
    refine ⟨h1, ?_⟩
    rw [← h2]
    exact World.cell?_of_block (a := ⟨b, j, none⟩) (World.putObj_heap_other fun e => hk j (by simp only at e; rw [← e]; exact h1))
  shape := fun b s hs => by
    have h1 := h.shape b s hs
    have : b ≠ D := fun e => by subst e; simp [World.shape?, ho] at h1
    simp only [World.shape?, World.putObj_heap_other this] at h1 ⊢
    exact h1
  size := by simpa using h.size
  marks := fun b hb => by
    have : b ≠ D := fun e => by
      subst e
      rw [Array.getElem?_eq_none hD] at hb
      cases hb
    rw [World.putObj_heap_other this]
    exact h.marks b hb

theorem Inv.notMark {G : Ctx} {S : LS} {K : Kept} {w : World} (h : Inv G S K w) {D : Nat} {o : Obj} (ho : w.heap[D]? = some o) (hc : o.isCells = false) (j : Nat) : ¬ K D j := fun hk => by
  obtain ⟨v, hv⟩ := h.live D j hk
  simp only [World.cell?, ho] at hv
  cases o <;> first | (simp at hv; done) | (simp [Obj.isCells] at hc)

/-- What the logical memory says does not hang on a mark. -/
theorem Inv.closeMark {G : Ctx} {S : LS} {K : Kept} {w : World} (h : Inv G S K w) {D : Nat} {o : Obj} (hB : G.base ≤ D) (ho : w.heap[D]? = some (.deferred (some []))) (hc : o.isCells = false) (hsc : G.since K (w.putObj D o)) :
    Inv G S K (w.putObj D o) := by
  have hx : Ext K w K w := .refl _ _
  have hk := h.notMark ho rfl
  have hcell : ∀ b j, K b j → (w.putObj D o).cell? ⟨b, j, none⟩ = w.cell? ⟨b, j, none⟩ := fun b j hb =>
    World.cell?_of_block (a := ⟨b, j, none⟩) (World.putObj_heap_other fun e => hk j (by simp only at e; rw [← e]; exact hb))
  have hother : ∀ b, b ≠ D → (w.putObj D o).heap[b]? = w.heap[b]? := fun b hb => World.putObj_heap_other hb
  have hrep : ∀ {l v}, Rep G w K l v → Rep G (w.putObj D o) K l v := by
    intro l v hr
    induction hr with
    | raw x h1 => exact .raw x h1
    | nil => exact .nil
    | emp a cap => exact .emp a cap
    | row o' es b off cap z c hn hcap hz ho' hc' hr ih =>
      refine .row o' es b off cap z c hn hcap hz ?_ ?_ ih
      · intro b' hb'
        obtain ⟨h1, h2, T, n, h3, h4⟩ := ho' b' hb'
        refine ⟨h1, h2, T, n, ?_, h4⟩
        have : b ≠ D := fun e => by subst e; simp [World.shape?, ho] at h3
        simp only [World.shape?, hother b this] at h3 ⊢
        exact h3
      · intro i j x hx'
        obtain ⟨h1, h2⟩ := hc' i j x hx'
        exact ⟨by rw [hcell _ _ h2]; exact h1, h2⟩
    | ptr l b off c h hr ih => exact .ptr l b off c (fun j x hj => ⟨by rw [hcell _ _ (h j x hj).2]; exact (h j x hj).1, (h j x hj).2⟩) ih
  refine ⟨?_, ?_, fun b j hb => ?_, fun b cs hb => ?_, fun b T n hb => ?_, fun b o' hb => ?_, ?_, hsc⟩
  · exact h.below.trans ⟨rfl, rfl, rfl, by simp, fun k hk' => hother k (by omega)⟩
  · simpa using h.base
  · rw [hcell b j hb]; exact h.live b j hb
  · obtain ⟨h1, h2, c, T, h3, h4, h5, h6⟩ := h.box b cs hb
    have : b ≠ D := fun e => by subst e; rw [ho] at h3; cases h3
    exact ⟨h1, h2, c, T, by rw [hother b this]; exact h3, h4, fun j x v hj hv => hrep (h5 j x v hj hv), h6⟩
  · obtain ⟨h1, h2, h3, c, h4, h5⟩ := h.row b T n hb
    have : b ≠ D := fun e => by subst e; rw [ho] at h4; cases h4
    exact ⟨h1, h2, h3, c, by rw [hother b this]; exact h4, h5⟩
  · obtain ⟨h1, h2, h3, h4, h5⟩ := h.obj b o' hb
    have : b ≠ D := fun e => by subst e; rw [ho] at h3; exact h5 (by simpa using h3.symm)
    exact ⟨h1, h2, by rw [hother b this]; exact h3, h4, h5⟩
  · simpa using h.top

theorem RelT.closeMark {G : Ctx} {S : LS} {K : Kept} {w : World} (h : Inv G S K w) {D : Nat} {o : Obj} (ho : w.heap[D]? = some (.deferred (some []))) (hc : o.isCells = false) {T : Nat → TV} {n : Nat} {a : Act} (hr : RelT G w K n T a) : RelT G (w.putObj D o) K n T a := by
  have hk := h.notMark ho rfl
  have hcell : ∀ b j, K b j → (w.putObj D o).cell? ⟨b, j, none⟩ = w.cell? ⟨b, j, none⟩ := fun b j hb =>
    World.cell?_of_block (a := ⟨b, j, none⟩) (World.putObj_heap_other fun e => hk j (by simp only at e; rw [← e]; exact hb))
  have hsh : ∀ b s, w.shape? b = some s → (w.putObj D o).shape? b = some s := fun b s hs => by
    have : b ≠ D := fun e => by subst e; simp [World.shape?, ho] at hs
    simp only [World.shape?, World.putObj_heap_other this] at hs ⊢
    exact hs
  have hrep : ∀ {l v}, Rep G w K l v → Rep G (w.putObj D o) K l v := by
    intro l v hr
    induction hr with
    | raw x h1 => exact .raw x h1
    | nil => exact .nil
    | emp a cap => exact .emp a cap
    | row o' es b off cap z c hn hcap hz ho' hc' hr ih =>
      refine .row o' es b off cap z c hn hcap hz ?_ ?_ ih
      · intro b' hb'
        obtain ⟨h1, h2, T, n, h3, h4⟩ := ho' b' hb'
        exact ⟨h1, h2, T, n, hsh _ _ h3, h4⟩
      · intro i j x hx'
        obtain ⟨h1, h2⟩ := hc' i j x hx'
        exact ⟨by rw [hcell _ _ h2]; exact h1, h2⟩
    | ptr l b off c h hr ih => exact .ptr l b off c (fun j x hj => ⟨by rw [hcell _ _ (h j x hj).2]; exact (h j x hj).1, (h j x hj).2⟩) ih
  have hrepT : ∀ {l v}, RepT G w K l v → RepT G (w.putObj D o) K l v := by
   intro l v hr
   induction hr with
   | one h => exact .one (hrep h)
   | agg l vs hs h => exact .agg l vs hs fun j x v hj hv => hrep (h j x v hj hv)
   | tup l vs hs h ih => exact .tup l vs hs ih
   | ro l b off c h hr => exact .ro l b off c (fun j x hj => ⟨by rw [hcell _ _ (h j x hj).2]; exact (h j x hj).1, (h j x hj).2⟩) fun j x hj => hrep (hr j x hj)
   | any v => exact .any v
   | when b r v h1 h0 ih => exact .when b r v ih h0
  exact ⟨hr.1, fun i => hrepT (hr.2 i)⟩

/-- Leaving: the marks are taken one behind the other, then the results are read. -/
theorem leaves_of {G : Ctx} {n m : Nat} {fn : Func} {R : Ending → World → Prop} {T : Nat → TV} {S : LS} {K : Kept} {a : Act} {w0 : World} {K0 : Kept} {r : TV} (hbase : G.base ≤ w0.heap.size) (hs0 : G.since K0 w0) (hres : LRes G n fn T S r)
    (hR : ∀ (v : Value) (w' : World), RepT G w' K r v → Inv G S K w' → Ext K0 w0 K w' → R (.returned v) w') :
    ∀ (Ds : List Nat) (w : World), Ds.Nodup → (∀ D ∈ Ds, w0.heap.size ≤ D ∧ w.heap[D]? = some (.deferred (some []))) → Inv G S K w → RelT G w K n T a → Ext K0 w0 K w →
      LeavesInM Fence.wide m G.P fn a.tmps R (Ds.map fun D => { target := .collected D, args := #[] }) .returning w := by
  intro Ds
  induction Ds with
  | nil =>
    intro w _ _ hi hr hx
    obtain ⟨v, h1, h2⟩ := hres K w a hi hr
    exact ⟨v, h1, hR v w h2 hi hx⟩
  | cons D Ds ih =>
    intro w hnd hall hi hr hx
    obtain ⟨h1, h3⟩ := hall D (by simp)
    have h2 := Nat.le_trans hbase h1
    rw [List.nodup_cons] at hnd
    refine ⟨by simp, .inl ⟨D, w.putObj D (.deferred none), rfl, run_takeDeferred h3, ih _ hnd.2 (fun D' hD' => ?_) (hi.closeMark h2 h3 rfl (G.stable _ _ _ _ hs0 (hx.closeMark h1 h3 (hi.notMark h3 rfl) rfl))) (hr.closeMark hi h3 rfl) (hx.closeMark h1 h3 (hi.notMark h3 rfl) rfl)⟩⟩
    obtain ⟨k1, k3⟩ := hall D' (List.mem_cons_of_mem _ hD')
    exact ⟨k1, by rw [World.putObj_heap_other (fun e => by subst e; exact hnd.1 hD')]; exact k3⟩

theorem LCalls.enter {G : Ctx} {f : FuncId} {fn : Func} {c : Code} {args : List TV} {Q : TV → LS → Prop} {S : LS} (hf : G.P.funcs[f]? = some fn) (hb : fn.body = some c)
    (hn : Nat.ble args.length fn.ntmps = true) (h : LWp G none fn.ntmps c (LBody G fn.ntmps fn Q) (argT args) S) : LCalls G f args Q S := by
  intro K w vals h1 h2
  have hn := Nat.le_of_ble_eq_true hn
  refine callsIn_wide (n := 0) |>.1 (callsIn_of_wp_marks hf hb trivial (wpIn_mono (h w.heap.size K w _ h1 ?_ (Marks.nil _)) fun e a' w' hp => ?_) rfl)
  · refine ⟨?_, fun i => ?_⟩
    · have := h2.1
      simp only [Array.size_append, Array.size_replicate]; omega
    · have hs := h2.1
      rw [Array.getD_eq_getD_getElem?]
      by_cases hi : i < vals.size
      · rw [Array.getElem?_append_left hi, Array.getElem?_eq_getElem hi]
        refine h2.2 i _ _ ?_ (Array.getElem?_eq_getElem hi)
        simp only [argT]
        rw [List.getD_eq_getElem?_getD, List.getElem?_eq_getElem (by omega)]
        rfl
      · rw [Array.getElem?_append_right (by omega)]
        have : (argT args) i = .any := by
          simp only [argT]
          rw [List.getD_eq_getElem?_getD, List.getElem?_eq_none (by omega)]
          rfl
        rw [this]
        exact .any _
  · obtain ⟨T', S', K', i1, i2, i3, i4, i5⟩ := hp
    obtain ⟨_, Ds, d1, d2, d3⟩ := i3
    have key : ∀ r, LRes G fn.ntmps fn T' S' r → Q r S' → LeavesInM Fence.wide 0 G.P fn a'.tmps (fun e w' => ∃ r v S' K', e = .returned v ∧ RepT G w' K' r v ∧ Inv G S' K' w' ∧ Ext K w K' w' ∧ Q r S') a'.defers .returning w' := by
      intro r hr hq
      rw [d1]
      exact leaves_of h1.base h1.since hr (fun v w2 hrep hi hx => ⟨r, v, S', K', rfl, hrep, hi, hx, hq⟩) Ds w' d2 d3 i1 i2 i4
    cases e with
    | normal =>
      obtain ⟨r, hr, hq⟩ := i5
      exact key r hr hq
    | ret =>
      obtain ⟨r, hr, hq⟩ := i5
      exact key r hr hq
    | _ => exact i5.elim

/-- Slots that a relation names: the others are whatever they are. -/
def over (T : Nat → TV) : List (Nat × TV) → Nat → TV
  | [], i => T i
  | (d, r) :: l, i => bif Nat.beq i d then r else over T l i

theorem over_self (T : Nat → TV) : ∀ (l : List (Nat × TV)), (∀ d r, (d, r) ∈ l → T d = r) → over T l = T := by
  intro l
  induction l with
  | nil => intro _; rfl
  | cons x l ih =>
    intro h
    obtain ⟨d, r⟩ := x
    funext i
    simp only [over]
    cases hb : Nat.beq i d with
    | true =>
      have : i = d := Nat.eq_of_beq_eq_true hb
      subst this
      exact (h i r (by simp)).symm
    | false =>
      simp only [cond_false]
      exact congrFun (ih fun d r hm => h d r (List.mem_cons_of_mem _ hm)) i

/-- The slots hold what the list says. -/
def holds (T : Nat → TV) : List (Nat × TV) → Prop
  | [] => True
  | (d, r) :: l => T d = r ∧ holds T l

theorem holds.over {T : Nat → TV} : ∀ {l : List (Nat × TV)}, holds T l → T = over T l := by
  intro l h
  refine (over_self T l ?_).symm
  induction l with
  | nil => simp
  | cons x l ih =>
    intro d r hm
    rcases List.mem_cons.1 hm with rfl | hm
    · exact h.1
    · exact ih h.2 d r hm

def Slots (l : List (Nat × TV)) (T : Nat → TV) : Prop := ∀ d r, (d, r) ∈ l → T d = r

end Go.Proofs.Ytgkjhlmfgaaddaa.LF
end

section
/- The frame's operations that only read: what each gives. -/
namespace Go.Proofs.Ytgkjhlmfgaaddaa.LF
open Go.RowKit

/-- What is known of a type. -/
structure TI where
  desc : TypeDesc
  size : Nat
  bytes : Nat
  zero : Value

abbrev Tab := List (TypeId × TI)
def Tab.get : Tab → TypeId → Option TI
  | [], _ => none
  | (u, i) :: l, t => bif Nat.beq t u then some i else Tab.get l t

structure TIok (P : Program) (t : TypeId) (i : TI) : Prop where
  und : P.underlying t = some i.desc
  info : ∃ j, P.info? t = some j ∧ j.size = i.size ∧ j.bytes = i.bytes ∧ j.zero = some i.zero

theorem TIok.of {P : Program} {t : TypeId} {i : TI} (h1 : P.underlying t = some i.desc) (h2 : (P.info? t).map (fun j => (j.size, j.bytes, j.zero)) = some (i.size, i.bytes, some i.zero)) : TIok P t i := by
  refine ⟨h1, ?_⟩
  cases hq : P.info? t with
  | none => rw [hq] at h2; cases h2
  | some j =>
    rw [hq] at h2
    simp only [Option.map_some, Option.some.injEq, Prod.mk.injEq] at h2
    exact ⟨j, rfl, h2.1, h2.2.1, h2.2.2⟩

def TabOK (P : Program) (D : Tab) : Prop := ∀ x ∈ D, TIok P x.1 x.2

theorem TabOK.get {P : Program} {D : Tab} (h : TabOK P D) {t : TypeId} {i : TI} (hg : D.get t = some i) : TIok P t i := by
  induction D with
  | nil => simp [Tab.get] at hg
  | cons x D ih =>
    obtain ⟨u, j⟩ := x
    simp only [Tab.get] at hg
    cases hb : Nat.beq t u with
    | true =>
      rw [hb] at hg
      simp only [cond_true, Option.some.injEq] at hg
      subst hg
      have : t = u := Nat.eq_of_beq_eq_true hb
      subst this
      exact h (t, j) (by simp)
    | false =>
      rw [hb] at hg
      exact ih (fun x hx => h x (List.mem_cons_of_mem _ hx)) (by simpa using hg)

def TI.isAgg (i : TI) : Bool := match i.desc with
  | .struct _ => true
  | .array _ _ => true
  | _ => false

section runs
variable {P : Program} {w : World} {t : TypeId} {i : TI}

theorem run_sizeOf' (h : TIok P t i) : (sizeOf t).run P w = .ok i.size w := by
  obtain ⟨j, hj, h1, _⟩ := h.info
  simp [sizeOf, typeInfo, hj, h1]

theorem run_zero' (h : TIok P t i) : (zeroValue t).run P w = .ok i.zero w := by
  obtain ⟨j, hj, _, _, h1⟩ := h.info
  simp [zeroValue, typeInfo, hj, h1]

theorem run_isAgg' (h : TIok P t i) : (isAgg t).run P w = .ok i.isAgg w := by
  simp only [isAgg, Sem.run_bind, run_underlying h.und, Result.andThen_ok]
  unfold TI.isAgg
  split <;> simp_all

theorem cellsOf' (h : TIok P t i) : P.cellsOf t = i.size := by
  obtain ⟨j, hj, h1, _⟩ := h.info
  simp [Program.cellsOf, hj, h1]

theorem run_part_agg (h : TIok P t i) (ha : i.isAgg = true) (cs : Array Value) (off : Nat) : (part t cs off).run P w = .ok (.agg (cs.extract off (off + i.size))) w := by
  simp [part, run_isAgg' h, ha, run_sizeOf' h]

theorem run_part_one (h : TIok P t i) (ha : i.isAgg = false) (cs : Array Value) (off : Nat) (v : Value) (hv : cs[off]? = some v) : (part t cs off).run P w = .ok v w := by
  simp [part, run_isAgg' h, ha, hv]

theorem add_off (b o k : Nat) : (⟨b, o, none⟩ : Addr).add k = ⟨b, o + k, none⟩ := by
  unfold Addr.add; split <;> simp_all

theorem run_loadVar_agg (h : TIok P t i) (ha : i.isAgg = true) (b off : Nat) (c : Nat → Value) (hc : ∀ j, j < i.size → w.cell? ⟨b, off + j, none⟩ = some (c j)) :
    (loadVar t ⟨b, off, none⟩).run P w = .ok (.agg ((List.range i.size).map c).toArray) w := by
  have := run_loadCells (P := P) w ⟨b, off, none⟩ i.size c (fun j hj => by rw [add_off]; exact hc j hj)
  simp [loadVar, run_isAgg' h, ha, run_sizeOf' h, this]

theorem run_loadVar_one (h : TIok P t i) (ha : i.isAgg = false) (b off : Nat) (v : Value) (hc : w.cell? ⟨b, off, none⟩ = some v) :
    (loadVar t ⟨b, off, none⟩).run P w = .ok v w := by
  simp [loadVar, run_isAgg' h, ha, hc]
end runs

theorem LVal.of_run {G : Ctx} {o : Oper} {T : Nat → TV} {S : LS} {r : TV}
    (h : ∀ (K : Kept) (w : World) (a : Act), Inv G S K w → (∀ x ∈ o.op.operands, RepT G w K (lev T x) (a.eval x)) → ∃ v, (execOp a.eval o).run G.P w = .ok (.value v) w ∧ RepT G w K r v) : LVal G o T S r := by
  intro K w a hi hr
  obtain ⟨v, h1, h2⟩ := h K w a hi hr
  unfold Oper.wp
  rw [h1]
  exact ⟨v, K, rfl, h2, hi, .refl _ _⟩

theorem RepT.flat {G : Ctx} {w : World} {K : Kept} {x v : Value} (h : RepT G w K (.one (.v x)) v) : v = x := by
  cases h with | one h => cases h; rfl
theorem RepT.flat1 {G : Ctx} {w : World} {K : Kept} {x v : Value} (h : RepT G w K (.one (.v x)) v) : x.oneCell' = true := by
  cases h with | one h => cases h; assumption
theorem RepT.of_one {G : Ctx} {w : World} {K : Kept} {x : LV} {v : Value} (h : RepT G w K (.one x) v) : Rep G w K x v := by
  cases h with | one h => exact h
theorem RepT.raw {G : Ctx} {w : World} {K : Kept} {x : Value} (h : x.oneCell' = true) : RepT G w K (.one (.v x)) x := .one (.raw x h)

theorem RepT.agg_inv {G : Ctx} {w : World} {K : Kept} {l : List LV} {v : Value} (h : RepT G w K (.agg l) v) :
    ∃ vs, v = .agg vs ∧ vs.size = l.length ∧ ∀ (j : Nat) x v, l[j]? = some x → vs[j]? = some v → Rep G w K x v := by
  cases h with | agg l vs hs h => exact ⟨vs, rfl, hs, h⟩
theorem RepT.tup_inv {G : Ctx} {w : World} {K : Kept} {l : List TV} {v : Value} (h : RepT G w K (.tup l) v) :
    ∃ vs, v = .tuple vs ∧ vs.size = l.length ∧ ∀ (j : Nat) x v, l[j]? = some x → vs[j]? = some v → RepT G w K x v := by
  cases h with | tup l vs hs h => exact ⟨vs, rfl, hs, h⟩
theorem RepT.ro_inv {G : Ctx} {w : World} {K : Kept} {l : List LV} {v : Value} (h : RepT G w K (.ro l) v) :
    ∃ (b off : Nat) (c : Nat → Value), v = .pointer (some ⟨b, off, none⟩) ∧ (∀ (j : Nat) x, l[j]? = some x → w.cell? ⟨b, off + j, none⟩ = some (c j) ∧ K b (off + j)) ∧ ∀ (j : Nat) x, l[j]? = some x → Rep G w K x (c j) := by
  cases h with | ro l b off c h hr => exact ⟨b, off, c, rfl, h, hr⟩

/-- Integers. -/
def lint (op : BinOp) (k : IntKind) (a b : Int) : Option Value :=
  match op with
  | .add => some (.int k (k.wrap (a + b)))
  | .sub => some (.int k (k.wrap (a - b)))
  | .mul => some (.int k (k.wrap (a * b)))
  | .quo => if b = 0 then none else some (.int k (k.wrap (a.tdiv b)))
  | .rem => if b = 0 then none else some (.int k (a.tmod b))
  | .and => some (.int k (k.wrap ((BitVec.ofInt k.bits a &&& BitVec.ofInt k.bits b).toNat : Int)))
  | .or => some (.int k (k.wrap ((BitVec.ofInt k.bits a ||| BitVec.ofInt k.bits b).toNat : Int)))
  | .xor => some (.int k (k.wrap ((BitVec.ofInt k.bits a ^^^ BitVec.ofInt k.bits b).toNat : Int)))
  | .andNot => some (.int k (k.wrap ((BitVec.ofInt k.bits a &&& ~~~BitVec.ofInt k.bits b).toNat : Int)))
  | .eql => some (.bool (a == b))
  | .neq => some (.bool (a != b))
  | .lss => some (.bool (decide (a < b)))
  | .leq => some (.bool (decide (a ≤ b)))
  | .gtr => some (.bool (decide (a > b)))
  | .geq => some (.bool (decide (a ≥ b)))
  | .shl => none
  | .shr => none

def lstr (op : BinOp) (a b : ByteArray) : Option Value :=
  match op with
  | .eql => some (.bool (a.toList == b.toList))
  | .neq => some (.bool !(a.toList == b.toList))
  | .lss => some (.bool (Op.bytesLess a.toList b.toList))
  | .leq => some (.bool (Op.bytesLess a.toList b.toList || a.toList == b.toList))
  | .gtr => some (.bool !(Op.bytesLess a.toList b.toList || a.toList == b.toList))
  | .geq => some (.bool !Op.bytesLess a.toList b.toList)
  | _ => none

/-- Equality of two plain values of one cell, at a type. -/
def leql (d : TypeDesc) (a b : Value) : Option Bool :=
  match d, a, b with
  | .bool, .bool x, .bool y => some (x == y)
  | .pointer _, .pointer none, .pointer y => some y.isNone
  | .pointer _, .pointer (some _), .pointer none => some false
  | .func _ _ _, .nilFunc, .nilFunc => some true
  | .func _ _ _, .nilFunc, .func _ _ _ => some false
  | .func _ _ _, .func _ _ _, .nilFunc => some false
  | .slice _, .slice none _ _, .slice y _ _ => some y.isNone
  | .slice _, .slice (some _) _ _, .slice none _ _ => some false
  | .map _ _, .map none, .map y => some y.isNone
  | .map _ _, .map (some _), .map none => some false
  | _, _, _ => none

def lbin (D : Tab) (t : TypeId) (op : BinOp) (a b : Value) : Option Value :=
  match a, b with
  | .int k x, .int k' y => bif k == k' then lint op k x y else none
  | .string x, .string y => lstr op x y
  | a, b => match D.get t with
    | none => none
    | some i => match op with
      | .eql => (leql i.desc a b).map Value.bool
      | .neq => (leql i.desc a b).map fun x => Value.bool !x
      | _ => none

theorem binOp_int {P : Program} {w : World} {t : TypeId} {op : BinOp} {k : IntKind} {x y : Int} {v : Value} (h : lint op k x y = some v) : (binOp op t (.int k x) (.int k y)).run P w = .ok v w := by
  unfold lint at h
  cases op <;> simp only [Option.some.injEq, reduceCtorEq] at h <;> (try subst h) <;> simp only [binOp, ne_eq, not_true_eq_false, if_false, Op.intArith, Op.intBits, Op.intCmp, Op.intDiv, Sem.run_pure]
  all_goals
    split at h
    · cases h
    · rename_i hne
      simp only [Option.some.injEq] at h
      subst h
      rw [if_neg hne]
      rfl

theorem binOp_str {P : Program} {w : World} {t : TypeId} {op : BinOp} {x y : ByteArray} {v : Value} (h : lstr op x y = some v) : (binOp op t (.string x) (.string y)).run P w = .ok v w := by
  unfold lstr at h
  cases op <;> simp only [Option.some.injEq, reduceCtorEq] at h <;> (try subst h) <;> simp only [binOp, Op.stringOp, Sem.run_pure]

theorem equal_of {P : Program} {w : World} {t : TypeId} {d : TypeDesc} {a b : Value} {c : Bool} (hd : P.underlying t = some d) (h : leql d a b = some c) : (Op.equal t a b).run P w = .ok c w := by
  have key : ∀ n, (Op.equalIn (n + 1) t a b).run P w = .ok c w := fun n => by
    unfold leql at h
    split at h <;> simp only [Option.some.injEq, reduceCtorEq] at h <;> subst h <;> simp [Op.equalIn, run_underlying hd]
  exact key 9999

theorem eqGuard_flat {P : Program} {w : World} {op : BinOp} {t : TypeId} {x y : Operand} {a b : Value} (h : ∀ xs, a ≠ .agg xs) (h2 : a ≠ .nilIface) : (eqGuard op t x y a b).run P w = .ok () w := by
  cases op <;> first
    | rfl
    | (cases a <;> first | exact absurd rfl h2 | exact absurd rfl (h _) | rfl)

theorem binOp_of {P : Program} {D : Tab} (hD : TabOK P D) {w : World} {t : TypeId} {op : BinOp} {a b v : Value} (h : lbin D t op a b = some v) :
    (binOp op t a b).run P w = .ok v w ∧ (∀ xs, a ≠ .agg xs) ∧ a ≠ .nilIface ∧ v.oneCell' = true := by
  unfold lbin at h
  split at h
  · rename_i k x k' y
    cases hk : (k == k') with
    | false => rw [hk] at h; simp at h
    | true =>
      rw [hk] at h
      have : k = k' := by simpa using hk
      subst this
      refine ⟨binOp_int (by simpa using h), by simp, by simp, ?_⟩
      simp only [cond_true] at h
      unfold lint at h
      cases op <;> simp only [Option.some.injEq, reduceCtorEq] at h <;> first | (subst h; rfl) | (split at h <;> first | (cases h; done) | (simp only [Option.some.injEq] at h; subst h; rfl))
  · rename_i x y
    refine ⟨binOp_str h, by simp, by simp, ?_⟩
    unfold lstr at h
    cases op <;> simp only [Option.some.injEq, reduceCtorEq] at h <;> (subst h; rfl)
  · rename_i hni hns
    cases hg : D.get t with
    | none => rw [hg] at h; simp at h
    | some i =>
      rw [hg] at h
      have hd := (hD.get hg).und
      simp only at h
      split at h
      · cases hl : leql i.desc a b with
        | none => rw [hl] at h; simp at h
        | some c =>
          rw [hl] at h
          simp only [Option.map_some, Option.some.injEq] at h
          subst h
          have he := equal_of (w := w) hd hl
          unfold leql at hl
          split at hl <;> first | (simp at hl; done) | exact ⟨by simp [binOp, he], by simp, by simp, rfl⟩
      · cases hl : leql i.desc a b with
        | none => rw [hl] at h; simp at h
        | some c =>
          rw [hl] at h
          simp only [Option.map_some, Option.some.injEq] at h
          subst h
          have he := equal_of (w := w) hd hl
          unfold leql at hl
          split at hl <;> first | (simp at hl; done) | exact ⟨by simp [binOp, he], by simp, by simp, rfl⟩
      · simp at h

theorem LVal.binOp {G : Ctx} {D : Tab} (hD : TabOK G.P D) {o : Oper} {T : Nat → TV} {S : LS} {op : BinOp} {t u : TypeId} {x y : Operand} {a b v : Value} (ho : o.op = .binOp op t x y u)
    (hx : lev T x = .one (.v a)) (hy : lev T y = .one (.v b)) (h : lbin D t op a b = some v) : LVal G o T S (.one (.v v)) :=
  .of_run fun K w ac hi hr => by
    have h1 := hr x (by rw [ho]; simp [Op.operands])
    have h2 := hr y (by rw [ho]; simp [Op.operands])
    rw [hx] at h1
    rw [hy] at h2
    obtain ⟨r1, r2, r3, r4⟩ := binOp_of hD (w := w) h
    refine ⟨v, ?_, .raw r4⟩
    simp only [execOp, ho, h1.flat, h2.flat, Sem.run_bind, eqGuard_flat r2 r3, Result.andThen_ok, r1, Sem.run_pure]

/-- Sums that fit. -/
theorem LVal.add64 {G : Ctx} {o : Oper} {T : Nat → TV} {S : LS} {t u : TypeId} {x y : Operand} {a b : Int} (ho : o.op = .binOp .add t x y u)
    (hx : lev T x = .one (.v (.int .i64 a))) (hy : lev T y = .one (.v (.int .i64 b))) (h : -9223372036854775808 ≤ a + b ∧ a + b ≤ 9223372036854775807) : LVal G o T S (.one (.v (.int .i64 (a + b)))) := by
  have := LVal.binOp (G := G) (S := S) (D := []) (fun _ h => by cases h) ho hx hy (v := .int .i64 (IntKind.i64.wrap (a + b))) rfl
  rw [IntWalk.i64_in _ h] at this
  exact this
theorem LVal.sub64 {G : Ctx} {o : Oper} {T : Nat → TV} {S : LS} {t u : TypeId} {x y : Operand} {a b : Int} (ho : o.op = .binOp .sub t x y u)
    (hx : lev T x = .one (.v (.int .i64 a))) (hy : lev T y = .one (.v (.int .i64 b))) (h : -9223372036854775808 ≤ a - b ∧ a - b ≤ 9223372036854775807) : LVal G o T S (.one (.v (.int .i64 (a - b)))) := by
  have := LVal.binOp (G := G) (S := S) (D := []) (fun _ h => by cases h) ho hx hy (v := .int .i64 (IntKind.i64.wrap (a - b))) rfl
  rw [IntWalk.i64_in _ h] at this
  exact this

/-- Quotients and remainders of numbers that are not below zero. -/
theorem LVal.remI {G : Ctx} {o : Oper} {T : Nat → TV} {S : LS} {t u : TypeId} {x y : Operand} {k : IntKind} {a b : Int} (ho : o.op = .binOp .rem t x y u)
    (hx : lev T x = .one (.v (.int k a))) (hy : lev T y = .one (.v (.int k b))) (h : 0 ≤ a ∧ 0 < b) : LVal G o T S (.one (.v (.int k (a % b)))) := by
  have := LVal.binOp (G := G) (S := S) (D := []) (fun _ h => by cases h) ho hx hy (v := .int k (a.tmod b)) (by simp [lbin, lint]; omega)
  rw [Int.tmod_eq_emod_of_nonneg h.1] at this
  exact this
theorem LVal.quoU64 {G : Ctx} {o : Oper} {T : Nat → TV} {S : LS} {t u : TypeId} {x y : Operand} {a b : Int} (ho : o.op = .binOp .quo t x y u)
    (hx : lev T x = .one (.v (.int .u64 a))) (hy : lev T y = .one (.v (.int .u64 b))) (h : 0 ≤ a ∧ a ≤ 18446744073709551615 ∧ 0 < b) : LVal G o T S (.one (.v (.int .u64 (a / b)))) := by
  have := LVal.binOp (G := G) (S := S) (D := []) (fun _ h => by cases h) ho hx hy (v := .int .u64 (IntKind.u64.wrap (a.tdiv b))) (by simp [lbin, lint]; omega)
  rw [IntWalk.u64_quo _ _ (by omega)] at this
  exact this
theorem LVal.quo64 {G : Ctx} {o : Oper} {T : Nat → TV} {S : LS} {t u : TypeId} {x y : Operand} {a b : Int} (ho : o.op = .binOp .quo t x y u)
    (hx : lev T x = .one (.v (.int .i64 a))) (hy : lev T y = .one (.v (.int .i64 b))) (h : 0 ≤ a ∧ a ≤ 9223372036854775807 ∧ 0 < b) : LVal G o T S (.one (.v (.int .i64 (a / b)))) := by
  have := LVal.binOp (G := G) (S := S) (D := []) (fun _ h => by cases h) ho hx hy (v := .int .i64 (IntKind.i64.wrap (a.tdiv b))) (by simp [lbin, lint]; omega)
  rw [IntWalk.i64_quo _ _ (by omega)] at this
  exact this
theorem LVal.mul64 {G : Ctx} {o : Oper} {T : Nat → TV} {S : LS} {t u : TypeId} {x y : Operand} {a b : Int} (ho : o.op = .binOp .mul t x y u)
    (hx : lev T x = .one (.v (.int .i64 a))) (hy : lev T y = .one (.v (.int .i64 b))) (h : -9223372036854775808 ≤ a * b ∧ a * b ≤ 9223372036854775807) : LVal G o T S (.one (.v (.int .i64 (a * b)))) := by
  have := LVal.binOp (G := G) (S := S) (D := []) (fun _ h => by cases h) ho hx hy (v := .int .i64 (IntKind.i64.wrap (a * b))) rfl
  rw [IntWalk.i64_in _ h] at this
  exact this

theorem LVal.move {G : Ctx} {o : Oper} {T : Nat → TV} {S : LS} {x : Operand} (ho : o.op = .move x ∨ o.op = .assign x) : LVal G o T S (lev T x) :=
  .of_run fun K w ac hi hr => ⟨ac.eval x, by rcases ho with h | h <;> simp [execOp, h], hr x (by rcases ho with h | h <;> rw [h] <;> simp [Op.operands])⟩

theorem LVal.move1 {G : Ctx} {o : Oper} {T : Nat → TV} {S : LS} {x : Operand} {a : LV} (ho : o.op = .move x) (hx : lev T x = .one a) : LVal G o T S (.one a) := hx ▸ .move (.inl ho)
theorem LVal.assign1 {G : Ctx} {o : Oper} {T : Nat → TV} {S : LS} {x : Operand} {a : LV} (ho : o.op = .assign x) (hx : lev T x = .one a) : LVal G o T S (.one a) := hx ▸ .move (.inr ho)
theorem LVal.move2 {G : Ctx} {o : Oper} {T : Nat → TV} {S : LS} {x : Operand} {a : List LV} (ho : o.op = .move x) (hx : lev T x = .agg a) : LVal G o T S (.agg a) := hx ▸ .move (.inl ho)
theorem LVal.assign2 {G : Ctx} {o : Oper} {T : Nat → TV} {S : LS} {x : Operand} {a : List LV} (ho : o.op = .assign x) (hx : lev T x = .agg a) : LVal G o T S (.agg a) := hx ▸ .move (.inr ho)

theorem LVal.pick {G : Ctx} {o : Oper} {T : Nat → TV} {S : LS} {c x y : Operand} {b : Bool} (ho : o.op = .pick c x y) (hc : lev T c = .one (.v (.bool b))) : LVal G o T S (bif b then lev T x else lev T y) :=
  .of_run fun K w ac hi hr => by
    have h1 := hr c (by rw [ho]; simp [Op.operands])
    rw [hc] at h1
    refine ⟨if b then ac.eval x else ac.eval y, by cases b <;> simp [execOp, ho, h1.flat, asBool], ?_⟩
    cases b
    · exact hr y (by rw [ho]; simp [Op.operands])
    · exact hr x (by rw [ho]; simp [Op.operands])

def lun (op : UnOp) (a : Value) : Option Value :=
  match op, a with
  | .neg, .int k n => some (.int k (k.wrap (0 - n)))
  | .not, .bool b => some (.bool !b)
  | .xor, .int k n => some (.int k (k.wrap ((BitVec.ofInt k.bits (if k.signed then -1 else k.max) ^^^ BitVec.ofInt k.bits n).toNat : Int)))
  | _, _ => none

theorem LVal.unOp {G : Ctx} {o : Oper} {T : Nat → TV} {S : LS} {op : UnOp} {t : TypeId} {x : Operand} {a v : Value} (ho : o.op = .unOp op t x)
    (hx : lev T x = .one (.v a)) (h : lun op a = some v) : LVal G o T S (.one (.v v)) :=
  .of_run fun K w ac hi hr => by
    have h1 := hr x (by rw [ho]; simp [Op.operands])
    rw [hx] at h1
    unfold lun at h
    split at h <;> simp only [Option.some.injEq, reduceCtorEq] at h <;> subst h
    all_goals exact ⟨_, by simp [execOp, ho, h1.flat, Op.unary, Op.intArith, Op.intBits]; try rfl, .raw rfl⟩

theorem LVal.convInt {G : Ctx} {D : Tab} (hD : TabOK G.P D) {o : Oper} {T : Nat → TV} {S : LS} {src dst : TypeId} {x : Operand} {k k' : IntKind} {n : Int} {is id : TI} (ho : o.op = .convert src dst x)
    (hs : D.get src = some is) (hd : D.get dst = some id) (hk : id.desc = .int k') (hx : lev T x = .one (.v (.int k n))) : LVal G o T S (.one (.v (.int k' (k'.wrap n)))) :=
  .of_run fun K w ac hi hr => by
    have h1 := hr x (by rw [ho]; simp [Op.operands])
    rw [hx] at h1
    have e1 := (hD.get hs).und
    have e2 := (hD.get hd).und
    rw [hk] at e2
    refine ⟨_, ?_, .raw rfl⟩
    simp only [execOp, ho, h1.flat, convert, Sem.run_bind, run_underlying e1, run_underlying e2, Result.andThen_ok, Conv.intToInt, Sem.run_pure]

theorem LVal.conv64 {G : Ctx} {D : Tab} (hD : TabOK G.P D) {o : Oper} {T : Nat → TV} {S : LS} {src dst : TypeId} {x : Operand} {k : IntKind} {n : Int} {is id : TI} (ho : o.op = .convert src dst x)
    (hs : D.get src = some is) (hd : D.get dst = some id) (hk : id.desc = .int .i64) (hx : lev T x = .one (.v (.int k n))) (h : -9223372036854775808 ≤ n ∧ n ≤ 9223372036854775807) : LVal G o T S (.one (.v (.int .i64 n))) := by
  have := LVal.convInt (S := S) hD ho hs hd hk hx
  rw [IntWalk.i64_in _ h] at this
  exact this
theorem LVal.convU64 {G : Ctx} {D : Tab} (hD : TabOK G.P D) {o : Oper} {T : Nat → TV} {S : LS} {src dst : TypeId} {x : Operand} {k : IntKind} {n : Int} {is id : TI} (ho : o.op = .convert src dst x)
    (hs : D.get src = some is) (hd : D.get dst = some id) (hk : id.desc = .int .u64) (hx : lev T x = .one (.v (.int k n))) (h : 0 ≤ n ∧ n ≤ 18446744073709551615) : LVal G o T S (.one (.v (.int .u64 n))) := by
  have := LVal.convInt (S := S) hD ho hs hd hk hx
  rw [IntWalk.u64_in _ h] at this
  exact this

theorem LVal.extract {G : Ctx} {o : Oper} {T : Nat → TV} {S : LS} {x : Operand} {i : Nat} {l : List TV} {r : TV} (ho : o.op = .extract x i)
    (hx : lev T x = .tup l) (h : l[i]? = some r) : LVal G o T S r :=
  .of_run fun K w ac hi hr => by
    have h1 := hr x (by rw [ho]; simp [Op.operands])
    rw [hx] at h1
    obtain ⟨vs, hv, hs, hrep⟩ := h1.tup_inv
    have hlt : i < vs.size := by rw [hs]; exact (List.getElem?_eq_some_iff.1 h).1
    refine ⟨vs[i], by simp [execOp, ho, hv, Instr.extract, Array.getElem?_eq_getElem hlt], hrep i r _ h (Array.getElem?_eq_getElem hlt)⟩

/-- A value read off a row of cells. -/
def readT (i : TI) (l : List LV) : Option TV :=
  bif i.isAgg then (bif Nat.ble i.size l.length then some (.agg (l.take i.size)) else none) else match l with
    | x :: _ => some (.one x)
    | [] => none

theorem RepT.part {G : Ctx} {w : World} {K : Kept} {i : TI} {t : TypeId} (ht : TIok G.P t i) {l : List LV} {vs : Array Value} {r : TV} (hs : vs.size = l.length)
    (h : ∀ (j : Nat) x v, l[j]? = some x → vs[j]? = some v → Rep G w K x v) {off : Nat} (hr : readT i (l.drop off) = some r) : ∃ v, (part t vs off).run G.P w = .ok v w ∧ RepT G w K r v := by
  unfold readT at hr
  cases ha : i.isAgg with
  | true =>
    rw [ha] at hr
    simp only [cond_true] at hr
    cases hb : Nat.ble i.size (l.drop off).length with
    | false => rw [hb] at hr; simp at hr
    | true =>
      rw [hb] at hr
      simp only [cond_true, Option.some.injEq] at hr
      subst hr
      have hle : i.size ≤ (l.drop off).length := Nat.le_of_ble_eq_true hb
      rw [List.length_drop] at hle
      refine ⟨_, run_part_agg ht ha vs off, .agg _ _ (by simp; omega) fun j x v hj hv => ?_⟩
      rw [List.getElem?_take] at hj
      split at hj
      · rename_i hlt
        rw [List.getElem?_drop] at hj
        rw [Array.getElem?_extract] at hv
        split at hv
        · exact h _ _ _ hj hv
        · cases hv
      · cases hj
  | false =>
    rw [ha] at hr
    simp only [cond_false] at hr
    cases hl : l.drop off with
    | nil => rw [hl] at hr; simp at hr
    | cons x l' =>
      rw [hl] at hr
      simp only [Option.some.injEq] at hr
      subst hr
      have hx : l[off]? = some x := by
        have := List.getElem?_drop (xs := l) (i := off) (j := 0)
        rw [hl] at this; simpa using this.symm
      have hlt : off < vs.size := by rw [hs]; exact (List.getElem?_eq_some_iff.1 hx).1
      exact ⟨vs[off], run_part_one ht ha vs off _ (Array.getElem?_eq_getElem hlt), .one (h off x _ hx (Array.getElem?_eq_getElem hlt))⟩

theorem LVal.field {G : Ctx} {D : Tab} (hD : TabOK G.P D) {o : Oper} {T : Nat → TV} {S : LS} {t : TypeId} {x : Operand} {f : Nat} {l : List LV} {r : TV} {i j : TI} {fs : Array Field} {fd : Field} (ho : o.op = .field t x f)
    (hx : lev T x = .agg l) (hi : D.get t = some i) (hfs : i.desc = .struct fs) (hf : fs.toList[f]? = some fd) (hj : D.get fd.type = some j) (h : readT j (l.drop fd.offset) = some r) : LVal G o T S r :=
  .of_run fun K w ac hi' hr => by
    have h1 := hr x (by rw [ho]; simp [Op.operands])
    rw [hx] at h1
    obtain ⟨vs, hv, hs, hrep⟩ := h1.agg_inv
    have e1 := (hD.get hi).und
    rw [hfs] at e1
    obtain ⟨v, hp, hrv⟩ := RepT.part (hD.get hj) hs hrep h
    refine ⟨v, ?_, hrv⟩
    have hf' : fs[f]? = some fd := by simpa using hf
    simp [execOp, ho, hv, Instr.field, run_underlying e1, hf', asAgg, hp]

theorem run_fieldPlace {P : Program} {w : World} {b o : Nat} {f : Field} {j : TI} (h : TIok P f.type j) (hn : j.size ≠ 0) : (fieldPlace ⟨b, o, none⟩ f).run P w = .ok ⟨b, o + f.offset, none⟩ w := by
  simp [fieldPlace, run_sizeOf' h, hn, add_off]

theorem LVal.fieldAddrRo {G : Ctx} {D : Tab} (hD : TabOK G.P D) {o : Oper} {T : Nat → TV} {S : LS} {t : TypeId} {x : Operand} {f : Nat} {l : List LV} {i j : TI} {fs : Array Field} {fd : Field} (ho : o.op = .fieldAddr t x f)
    (hx : lev T x = .ro l) (hi : D.get t = some i) (hfs : i.desc = .struct fs) (hf : fs.toList[f]? = some fd) (hj : D.get fd.type = some j) (hn : j.size ≠ 0) : LVal G o T S (.ro (l.drop fd.offset)) :=
  .of_run fun K w ac hi' hr => by
    have h1 := hr x (by rw [ho]; simp [Op.operands])
    rw [hx] at h1
    obtain ⟨b, off, c, hv, hc, hrep⟩ := h1.ro_inv
    have e1 := (hD.get hi).und
    rw [hfs] at e1
    have hf' : fs[f]? = some fd := by simpa using hf
    refine ⟨.pointer (some ⟨b, off + fd.offset, none⟩), ?_, .ro _ b (off + fd.offset) (fun j => c (fd.offset + j)) (fun j x hj => ?_) fun j x hj => ?_⟩
    · simp [execOp, ho, hv, Instr.fieldAt, run_underlying e1, hf', Instr.sureAddr, run_fieldPlace (hD.get hj) hn]
    · rw [List.getElem?_drop] at hj
      have := hc _ _ hj
      rw [← Nat.add_assoc] at this
      exact this
    · rw [List.getElem?_drop] at hj
      exact hrep _ _ hj

theorem LVal.fieldAddr {G : Ctx} {D : Tab} (hD : TabOK G.P D) {o : Oper} {T : Nat → TV} {S : LS} {t : TypeId} {x : Operand} {f : Nat} {b off : Nat} {i j : TI} {fs : Array Field} {fd : Field} (ho : o.op = .fieldAddr t x f)
    (hx : lev T x = .one (.v (.pointer (some ⟨b, off, none⟩)))) (hi : D.get t = some i) (hfs : i.desc = .struct fs) (hf : fs.toList[f]? = some fd) (hj : D.get fd.type = some j) (hn : j.size ≠ 0) :
    LVal G o T S (.one (.v (.pointer (some ⟨b, off + fd.offset, none⟩)))) :=
  .of_run fun K w ac hi' hr => by
    have h1 := hr x (by rw [ho]; simp [Op.operands])
    rw [hx] at h1
    have e1 := (hD.get hi).und
    rw [hfs] at e1
    have hf' : fs[f]? = some fd := by simpa using hf
    refine ⟨_, ?_, .raw rfl⟩
    simp [execOp, ho, h1.flat, Instr.fieldAt, run_underlying e1, hf', Instr.sureAddr, run_fieldPlace (hD.get hj) hn]

/-- Cells that stay, or cells of a block that may be written: read as a value. -/
theorem RepT.load {G : Ctx} {w : World} {K : Kept} {i : TI} {t : TypeId} (ht : TIok G.P t i) {l : List LV} {b off : Nat} {c : Nat → Value} {r : TV}
    (hc : ∀ (j : Nat) x, l[j]? = some x → w.cell? ⟨b, off + j, none⟩ = some (c j)) (hrep : ∀ (j : Nat) x, l[j]? = some x → Rep G w K x (c j)) (hr : readT i l = some r) :
    ∃ v, (loadVar t ⟨b, off, none⟩).run G.P w = .ok v w ∧ RepT G w K r v := by
  unfold readT at hr
  cases ha : i.isAgg with
  | true =>
    rw [ha] at hr
    simp only [cond_true] at hr
    cases hb : Nat.ble i.size l.length with
    | false => rw [hb] at hr; simp at hr
    | true =>
      rw [hb] at hr
      simp only [cond_true, Option.some.injEq] at hr
      subst hr
      have hle : i.size ≤ l.length := Nat.le_of_ble_eq_true hb
      refine ⟨_, run_loadVar_agg ht ha b off c (fun j hj => hc j l[j] (List.getElem?_eq_getElem (by omega))), .agg _ _ (by simp; omega) fun j x v hj hv => ?_⟩
      rw [List.getElem?_take] at hj
      split at hj
      · rename_i hlt
        have : v = c j := by
          simp only [List.getElem?_toArray, List.getElem?_map, List.getElem?_range hlt, Option.map_some, Option.some.injEq] at hv
          exact hv.symm
        subst this
        exact hrep _ _ hj
      · cases hj
  | false =>
    rw [ha] at hr
    simp only [cond_false] at hr
    cases l with
    | nil => simp at hr
    | cons x l' =>
      simp only [Option.some.injEq] at hr
      subst hr
      exact ⟨c 0, run_loadVar_one ht ha b off _ (by have := hc 0 x rfl; simpa using this), .one (hrep 0 x rfl)⟩

theorem LVal.loadRo {G : Ctx} {D : Tab} (hD : TabOK G.P D) {o : Oper} {T : Nat → TV} {S : LS} {t : TypeId} {x : Operand} {l : List LV} {r : TV} {i : TI} (ho : o.op = .load t x)
    (hx : lev T x = .ro l) (hi : D.get t = some i) (h : readT i l = some r) : LVal G o T S r :=
  .of_run fun K w ac hi' hr => by
    have h1 := hr x (by rw [ho]; simp [Op.operands])
    rw [hx] at h1
    obtain ⟨b, off, c, hv, hc, hrep⟩ := h1.ro_inv
    obtain ⟨v, hl, hrv⟩ := RepT.load (hD.get hi) (fun j x hj => (hc j x hj).1) hrep h
    exact ⟨v, by simp [execOp, ho, hv, Instr.loadAt, Instr.sureAddr, hl], hrv⟩

theorem Inv.cells {G : Ctx} {S : LS} {K : Kept} {w : World} (h : Inv G S K w) {b : Nat} {cs : List LV} (hb : S.box b = some cs) :
    ∃ c T, w.heap[b]? = some (.cells c T (0, 0)) ∧ c.size = cs.length ∧ ∀ (j : Nat) x, cs[j]? = some x → ∃ v, c[j]? = some v ∧ w.cell? ⟨b, j, none⟩ = some v ∧ Rep G w K x v := by
  obtain ⟨_, _, c, T, h1, h2, h3, _⟩ := h.box b cs hb
  refine ⟨c, T, h1, h2, fun j x hj => ?_⟩
  have hlt : j < c.size := by rw [h2]; exact (List.getElem?_eq_some_iff.1 hj).1
  exact ⟨c[j], Array.getElem?_eq_getElem hlt, by rw [cell_of_row w b j c T (0, 0) h1, Array.getElem?_eq_getElem hlt], h3 j x _ hj (Array.getElem?_eq_getElem hlt)⟩

theorem LVal.load {G : Ctx} {D : Tab} (hD : TabOK G.P D) {o : Oper} {T : Nat → TV} {S : LS} {t : TypeId} {x : Operand} {b off : Nat} {cs : List LV} {r : TV} {i : TI} (ho : o.op = .load t x)
    (hx : lev T x = .one (.v (.pointer (some ⟨b, off, none⟩)))) (hb : S.box b = some cs) (hi : D.get t = some i) (h : readT i (cs.drop off) = some r) : LVal G o T S r :=
  .of_run fun K w ac hi' hr => by
    have h1 := hr x (by rw [ho]; simp [Op.operands])
    rw [hx] at h1
    obtain ⟨c, T, e1, e2, e3⟩ := hi'.cells hb
    obtain ⟨v, hl, hrv⟩ := RepT.load (G := G) (K := K) (w := w) (hD.get hi) (b := b) (off := off) (c := fun j => c.getD (off + j) undef) (l := cs.drop off) (fun j x hj => by
        rw [List.getElem?_drop] at hj
        obtain ⟨v, h1, h2, _⟩ := e3 _ _ hj
        rw [h2, Array.getD_eq_getD_getElem?, h1]; rfl) (fun j x hj => by
        rw [List.getElem?_drop] at hj
        obtain ⟨v, h1, _, h2⟩ := e3 _ _ hj
        rw [Array.getD_eq_getD_getElem?, h1]; exact h2) h
    exact ⟨v, by simp [execOp, ho, h1.flat, Instr.loadAt, Instr.sureAddr, hl], hrv⟩

/-- The length of a slice, a string. -/
theorem LVal.len {G : Ctx} {D : Tab} (hD : TabOK G.P D) {o : Oper} {T : Nat → TV} {S : LS} {t : TypeId} {x : Operand} {w : Own} {es : List (List LV)} {e : TypeId} {i : TI} (ho : o.op = .call { callee := .builtin .len, args := #[x], argTypes := #[t] })
    (hx : lev T x = .one (.sl w es)) (hi : D.get t = some i) (hd : i.desc = .slice e) : LVal G o T S (.one (.v (.int .i64 es.length))) :=
  .of_run fun K w ac hi' hr => by
    have h1 := hr x (by rw [ho]; simp [Op.operands, Call.operands])
    rw [hx] at h1
    have e1 := (hD.get hi).und
    rw [hd] at e1
    refine ⟨.int .i64 es.length, ?_, .raw rfl⟩
    have h2 := h1.of_one
    generalize hv : ac.eval x = v at h2
    cases h2 <;> simp [execOp, ho, resolve, invoke, builtin, hv, Builtin.len_, run_underlying e1, goInt]

theorem LVal.lenStr {G : Ctx} {D : Tab} (hD : TabOK G.P D) {o : Oper} {T : Nat → TV} {S : LS} {t : TypeId} {x : Operand} {s : ByteArray} {i : TI} (ho : o.op = .call { callee := .builtin .len, args := #[x], argTypes := #[t] })
    (hx : lev T x = .one (.v (.string s))) (hi : D.get t = some i) (hd : i.desc = .string) : LVal G o T S (.one (.v (.int .i64 s.size))) :=
  .of_run fun K w ac hi' hr => by
    have h1 := hr x (by rw [ho]; simp [Op.operands, Call.operands])
    rw [hx] at h1
    have e1 := (hD.get hi).und
    rw [hd] at e1
    refine ⟨_, ?_, .raw rfl⟩
    simp [execOp, ho, resolve, invoke, builtin, h1.flat, Builtin.len_, run_underlying e1, goInt]

/-- An element's address in a slice whose cells stay. -/
theorem LVal.indexSl {G : Ctx} {D : Tab} (hD : TabOK G.P D) {o : Oper} {T : Nat → TV} {S : LS} {t e : TypeId} {x ix : Operand} {w : Own} {es : List (List LV)} {k : IntKind} {n : Int} {i j : TI} {c : List LV} (ho : o.op = .indexAddr t x ix)
    (hx : lev T x = .one (.sl w es)) (hix : lev T ix = .one (.v (.int k n))) (hi : D.get t = some i) (hd : i.desc = .slice e) (hj : D.get e = some j) (h0 : 0 ≤ n) (hc : es[n.toNat]? = some c) (hsz : c.length = j.size) :
    LVal G o T S (.ro c) :=
  .of_run fun K w ac hi' hr => by
    have h1 := hr x (by rw [ho]; simp [Op.operands])
    have h2 := hr ix (by rw [ho]; simp [Op.operands])
    rw [hx] at h1
    rw [hix] at h2
    have e1 := (hD.get hi).und
    rw [hd] at e1
    have hlt := (List.getElem?_eq_some_iff.1 hc).1
    have h3 := h1.of_one
    generalize hv : ac.eval x = v at h3
    cases h3 with
    | nil => simp at hc
    | emp a cap => simp at hc
    | row _ _ b off cap z cc hn hcap hz hoo hcc hrr =>
      have hz' : z = j.size := by rw [← hsz]; exact (hz c (List.mem_of_getElem? hc)).symm
      subst hz'
      have hb : 0 ≤ n ∧ n < (es.length : Int) := ⟨h0, by omega⟩
      refine ⟨.pointer (some ⟨b, off + n.toNat * j.size, none⟩), ?_, .ro _ _ _ (fun q => cc n.toNat q) (fun q x hq => ?_) fun q x hq => ?_⟩
      · simp only [execOp, ho, hv, h2.flat, Instr.indexAt, Sem.run_bind, asIntOf, Sem.run_pure, Result.andThen_ok, run_underlying e1, hb, and_self, if_true, run_sizeOf' (hD.get hj), add_off]
      · have := hcc n.toNat q x (by simp [cellOf, hc, hq])
        rw [← Nat.add_assoc] at this
        exact this
      · exact hrr n.toNat q x (by simp [cellOf, hc, hq])

/-- .. where the elements are the images of a list's. -/
theorem LVal.indexMap {G : Ctx} {D : Tab} (hD : TabOK G.P D) {o : Oper} {T : Nat → TV} {S : LS} {t e : TypeId} {x ix : Operand} {w : Own} {α : Type} {xs : List α} {f : α → List LV} {k : IntKind} {n : Nat} {i j : TI} (ho : o.op = .indexAddr t x ix)
    (hx : lev T x = .one (.sl w (xs.map f))) (hix : lev T ix = .one (.v (.int k (n : Int)))) (hi : D.get t = some i) (hd : i.desc = .slice e) (hj : D.get e = some j) (hn : n < xs.length) (hsz : (f xs[n]).length = j.size) :
    LVal G o T S (.ro (f xs[n])) :=
  .indexSl hD ho hx hix hi hd hj (by omega) (by simp [hn]) hsz

/-- A byte of a string. -/
theorem LVal.indexStr {G : Ctx} {D : Tab} (hD : TabOK G.P D) {o : Oper} {T : Nat → TV} {S : LS} {t : TypeId} {x ix : Operand} {s : ByteArray} {k : IntKind} {n : Int} {i : TI} {c : UInt8} (ho : o.op = .index t x ix)
    (hx : lev T x = .one (.v (.string s))) (hix : lev T ix = .one (.v (.int k n))) (hi : D.get t = some i) (hd : i.desc = .string) (h0 : 0 ≤ n) (hc : s[n.toNat]? = some c) :
    LVal G o T S (.one (.v (.int .u8 c.toNat))) :=
  .of_run fun K w ac hi' hr => by
    have h1 := hr x (by rw [ho]; simp [Op.operands])
    have h2 := hr ix (by rw [ho]; simp [Op.operands])
    rw [hx] at h1
    rw [hix] at h2
    have e1 := (hD.get hi).und
    rw [hd] at e1
    refine ⟨_, ?_, .raw rfl⟩
    simp only [execOp, ho, h1.flat, h2.flat, Instr.index, Sem.run_bind, asIntOf, Sem.run_pure, Result.andThen_ok, run_underlying e1, h0, if_true, hc]

/-- A function of the program that gives a value and turns nothing. -/
def LFun (G : Ctx) (f : FuncId) (args : List TV) (r : TV) : Prop := ∀ S, LCalls G f args (fun r' S' => r' = r ∧ S' = S) S

theorem LVal.call {G : Ctx} {o : Oper} {T : Nat → TV} {S : LS} {f : FuncId} {fn : Func} {xs : List Operand} {ts : Array TypeId} {args : List TV} {r : TV}
    (ho : o.op = .call { callee := .value (.func f), args := xs.toArray, argTypes := ts }) (hx : xs.map (fun x => shTV (lev T x)) = args) (hf : G.P.funcs[f]? = some fn) (hb : fn.body.isSome = true) (hn : fn.name ≠ "runtime.NumGoroutine")
    (h : LFun G f args r) : LVal G o T S r := by
  intro K w a hi hr
  have hrun : (execOp a.eval o).run G.P w = .ok (.enter f (xs.map a.eval).toArray) w := by
    have hbn : fn.body ≠ none := fun e => by rw [e] at hb; cases hb
    simp [execOp, ho, resolve, Act.eval, Deferred.ofValue, invoke, callFunc, hf, hn, hbn]
  unfold Oper.wp
  rw [hrun]
  refine (h S K w _ hi ⟨by rw [← hx]; simp, fun i x v hx' hv => ?_⟩).mono fun e w' hp => ?_
  · subst hx
    rw [List.getElem?_map] at hx'
    rw [List.getElem?_toArray, List.getElem?_map] at hv
    cases hq : xs[i]? with
    | none => rw [hq] at hx'; simp at hx'
    | some y =>
      rw [hq] at hx' hv
      simp only [Option.map_some, Option.some.injEq] at hx' hv
      subst hx'; subst hv
      exact (hr y (by rw [ho]; simp [Op.operands, Call.operands]; exact .inr (List.mem_of_getElem? hq))).shTV
  · obtain ⟨r', v, S', K', rfl, h2, h3, h4, rfl, rfl⟩ := hp
    exact ⟨v, K', rfl, h2, h3, h4⟩

end Go.Proofs.Ytgkjhlmfgaaddaa.LF
end

section
/- The frame's rule for a region whose order is drawn: every order that its edges allow gives what the text's order gives, if each operation only gives a value. -/
namespace Go.Proofs.Ytgkjhlmfgaaddaa.LF
open Go.RowKit

def maskOf (o : Oper) (acc : List Nat) : Nat := o.after.toList.foldl (fun s e => bif Region.binds .any e then s ||| 2 ^ e.on ||| acc.getD e.on 0 else s) 0

def befores : List Oper → List Nat → List Nat
  | [], acc => acc
  | o :: l, acc => befores l (acc ++ [maskOf o acc])

theorem befores_take (l : List Oper) : ∀ acc, (befores l acc).take acc.length = acc := by
  induction l with
  | nil => intro acc; simp [befores]
  | cons o l ih =>
    intro acc
    have h := ih (acc ++ [maskOf o acc])
    simp only [befores]
    have h2 := congrArg (List.take acc.length) h
    rw [List.take_take, List.length_append, List.length_singleton, Nat.min_eq_left (by omega)] at h2
    rw [h2]; simp

theorem befores_get (l : List Oper) : ∀ acc (j : Nat) o, l[j]? = some o → (befores l acc)[acc.length + j]? = some (maskOf o ((befores l acc).take (acc.length + j))) := by
  induction l with
  | nil => intro acc j o h; simp at h
  | cons o' l ih =>
    intro acc j o h
    cases j with
    | zero =>
      simp only [List.getElem?_cons_zero, Option.some.injEq] at h
      subst h
      simp only [befores, Nat.add_zero]
      have h := befores_take l (acc ++ [maskOf o' acc])
      have h1 : (befores l (acc ++ [maskOf o' acc])).take acc.length = acc := by
        have h2 := congrArg (List.take acc.length) h
        rw [List.take_take, List.length_append, List.length_singleton, Nat.min_eq_left (by omega)] at h2
        rw [h2]; simp
      rw [h1]
      have h3 : (befores l (acc ++ [maskOf o' acc]))[acc.length]? = ((befores l (acc ++ [maskOf o' acc])).take (acc ++ [maskOf o' acc]).length)[acc.length]? := by
        rw [List.getElem?_take, if_pos (by simp)]
      rw [h3, h]; simp
    | succ j =>
      have := ih (acc ++ [maskOf o' acc]) j o (by simpa using h)
      simp only [befores]
      rw [List.length_append, List.length_singleton] at this
      rw [show acc.length + (j + 1) = acc.length + 1 + j by omega]
      exact this

theorem mask_bit (acc : List Nat) (k : Nat) : ∀ (es : List Edge) (s : Nat), (es.foldl (fun s e => bif Region.binds .any e then s ||| 2 ^ e.on ||| acc.getD e.on 0 else s) s).testBit k = true →
    s.testBit k = true ∨ ∃ e ∈ es, Region.binds .any e = true ∧ (k = e.on ∨ (acc.getD e.on 0).testBit k = true) := by
  intro es
  induction es with
  | nil => intro s h; exact .inl h
  | cons e es ih =>
    intro s h
    simp only [List.foldl_cons] at h
    rcases ih _ h with h | ⟨e', he, h'⟩
    · cases hb : Region.binds .any e with
      | false => rw [hb] at h; exact .inl h
      | true =>
        rw [hb] at h
        simp only [cond_true, Nat.testBit_or, Bool.or_eq_true] at h
        rcases h with (h | h) | h
        · exact .inl h
        · refine .inr ⟨e, by simp, hb, .inl ?_⟩
          rw [Nat.testBit_two_pow] at h
          exact (of_decide_eq_true h).symm
        · exact .inr ⟨e, by simp, hb, .inr h⟩
    · exact .inr ⟨e', List.mem_cons_of_mem _ he, h'⟩

def looks (ops : List Oper) (o : Oper) : List Tmp :=
  (o.op.operands.toList.filterMap fun | .tmp t => some t | _ => none) ++
  (match o.guard with
   | some (g, _) => ((ops[g]?).bind (·.dst)).toList
   | none => [])

/-- Two operations of which one writes what the other names. -/
def clash (ops : List Oper) (x y : Oper) : Bool :=
  (match x.dst with | some d => (looks ops y).contains d || y.dst == some d | none => false) || (match y.dst with | some d => (looks ops x).contains d | none => false)

def orderOK (ops : List Oper) : Bool :=
  let B := befores ops []
  (List.range ops.length).all fun j => match ops[j]? with
    | none => true
    | some y => (y.after.toList.all fun e => !Region.binds .any e || Nat.blt e.on j) && (List.range j).all fun i => match ops[i]? with
      | none => true
      | some x => !clash ops x y || (B.getD j 0).testBit i

theorem orderOK_on {ops : List Oper} (h : orderOK ops = true) {j : Nat} {y : Oper} (hy : ops[j]? = some y) (e : Edge) (he : e ∈ y.after) (hb : Region.binds .any e = true) : e.on < j := by
  have hj : j < ops.length := (List.getElem?_eq_some_iff.1 hy).1
  simp only [orderOK, List.all_eq_true] at h
  have h1 := h j (List.mem_range.2 hj)
  rw [hy] at h1
  simp only [Bool.and_eq_true, List.all_eq_true] at h1
  have := h1.1 e (by simpa using he)
  rw [hb] at this
  simpa [Nat.blt_eq] using this

theorem orderOK_clash {ops : List Oper} (h : orderOK ops = true) {i j : Nat} {x y : Oper} (hx : ops[i]? = some x) (hy : ops[j]? = some y) (hij : i < j) (hc : clash ops x y = true) : ((befores ops []).getD j 0).testBit i = true := by
  have hj : j < ops.length := (List.getElem?_eq_some_iff.1 hy).1
  simp only [orderOK, List.all_eq_true] at h
  have h1 := h j (List.mem_range.2 hj)
  rw [hy] at h1
  simp only [Bool.and_eq_true, List.all_eq_true] at h1
  have := h1.2 i (List.mem_range.2 hij)
  rw [hx] at this
  simpa [hc] using this

theorem before_dep {ops : List Oper} {j k : Nat} {y : Oper} (hon : orderOK ops = true) (hy : ops[j]? = some y) (h : ((befores ops []).getD j 0).testBit k = true) :
    ∃ e ∈ y.after, Region.binds .any e = true ∧ (k = e.on ∨ ((befores ops []).getD e.on 0).testBit k = true) := by
  have hg := befores_get ops [] j y hy
  simp only [List.length_nil, Nat.zero_add] at hg
  rw [List.getD_eq_getElem?_getD, hg] at h
  simp only [Option.getD_some, maskOf] at h
  rcases mask_bit _ k _ 0 h with h | ⟨e, he, hb, h⟩
  · simp at h
  · have he' : e ∈ y.after := by simpa using he
    refine ⟨e, he', hb, h.imp id fun h => ?_⟩
    have hlt := orderOK_on hon hy e he' hb
    rw [List.getD_eq_getElem?_getD, List.getElem?_take, if_pos hlt, ← List.getD_eq_getElem?_getD] at h
    exact h

/-- What the slots hold when the operations of a set were done. -/
def vals (ops : List Oper) (T0 : Nat → TV) (r : Nat → TV) (L : Nat → Bool) : Nat → (Nat → TV)
  | 0 => T0
  | i + 1 => bif L i then putT (vals ops T0 r L i) ((ops[i]?).bind (·.dst)) (r i) else vals ops T0 r L i

theorem putT_ne (T : Nat → TV) (d : Option Tmp) (r : TV) {t : Nat} (h : d ≠ some t) : putT T d r t = T t := by
  cases d with
  | none => rfl
  | some d => exact upd_ne T r (fun e => h (by rw [e]))

theorem putT_eq (T : Nat → TV) (t : Nat) (r : TV) : putT T (some t) r t = r := upd_same T t r

structure Closed (ops : List Oper) (L : Nat → Bool) : Prop where
  out : ∀ i, L i = true → ∀ k, ((befores ops []).getD i 0).testBit k = true → L k = true

theorem clash_of_write {ops : List Oper} {x y : Oper} {t : Nat} (hx : x.dst = some t) (hy : t ∈ looks ops y ∨ y.dst = some t) : clash ops x y = true := by
  unfold clash
  rw [hx]
  rcases hy with h | h <;> simp [h]

theorem clash_of_read {ops : List Oper} {x y : Oper} {t : Nat} (hy : y.dst = some t) (hx : t ∈ looks ops x ∨ x.dst = some t) : clash ops x y = true := by
  unfold clash
  rcases hx with h | h
  · rw [hy]; simp [h]
  · rw [h]; simp [hy]

/-- Whatever was done ahead of it in an order that the edges allow: an operation sees the slots that it looks at as in the text's order. -/
theorem vals_seen {ops : List Oper} (hok : orderOK ops = true) {L : Nat → Bool} (hc : Closed ops L) {T0 : Nat → TV} {r : Nat → TV} {j : Nat} {y : Oper} (hy : ops[j]? = some y) (hj : L j = false)
    (hdep : ∀ e ∈ y.after, Region.binds .any e = true → L e.on = true) {t : Nat} (ht : t ∈ looks ops y ∨ y.dst = some t) :
    ∀ m, m ≤ ops.length → vals ops T0 r L m t = vals ops T0 r (fun _ => true) (min m j) t := by
  intro m
  induction m with
  | zero => intro _; simp [vals]
  | succ m ih =>
    intro hm
    have ih := ih (by omega)
    have hbef : ∀ k, ((befores ops []).getD j 0).testBit k = true → L k = true := fun k hk => by
      obtain ⟨e, he, hb, h⟩ := before_dep hok hy hk
      rcases h with rfl | h
      · exact hdep e he hb
      · exact hc.out _ (hdep e he hb) _ h
    obtain ⟨x, hx⟩ : ∃ x, ops[m]? = some x := ⟨_, List.getElem?_eq_getElem (by omega)⟩
    rcases Nat.lt_trichotomy m j with hlt | rfl | hgt
    · rw [show min (m + 1) j = m + 1 by omega]
      rw [show min m j = m by omega] at ih
      simp only [vals, cond_true, hx, Option.bind_some]
      by_cases hd : x.dst = some t
      · have := hbef m (orderOK_clash hok hx hy hlt (clash_of_write hd ht))
        rw [this, hd]
        simp only [cond_true, putT_eq]
      · rw [putT_ne _ _ _ hd, ← ih]
        cases L m
        · rfl
        · simp only [cond_true]; rw [putT_ne _ _ _ hd]
    · rw [show min (m + 1) m = m by omega]
      rw [show min m m = m by omega] at ih
      simp only [vals, hj, cond_false]
      exact ih
    · rw [show min (m + 1) j = j by omega]
      rw [show min m j = j by omega] at ih
      simp only [vals, hx, Option.bind_some]
      by_cases hd : x.dst = some t
      · have hb := orderOK_clash hok hy hx hgt (clash_of_read hd ht)
        have : L m = false := by
          cases hL : L m with
          | false => rfl
          | true => have := hc.out m hL j hb; rw [hj] at this; cases this
        rw [this]; simp only [cond_false]; exact ih
      · rw [← ih]
        cases L m
        · rfl
        · simp only [cond_true]; rw [putT_ne _ _ _ hd]

def withJ (L : Nat → Bool) (j : Nat) : Nat → Bool := fun i => bif Nat.beq i j then true else L i
theorem withJ_same (L : Nat → Bool) (j : Nat) : withJ L j j = true := by simp [withJ]
theorem withJ_ne (L : Nat → Bool) {i j : Nat} (h : i ≠ j) : withJ L j i = L i := by
  have : Nat.beq i j = false := by cases hb : Nat.beq i j with
    | false => rfl
    | true => exact absurd (Nat.eq_of_beq_eq_true hb) h
  simp [withJ, this]

theorem vals_put {ops : List Oper} (hok : orderOK ops = true) {L : Nat → Bool} (hc : Closed ops L) {T0 : Nat → TV} {r : Nat → TV} {j : Nat} {y : Oper} (hy : ops[j]? = some y) (hj : L j = false) (t : Nat) :
    ∀ m, m ≤ ops.length → vals ops T0 r (withJ L j) m t = if j < m then putT (vals ops T0 r L m) y.dst (r j) t else vals ops T0 r L m t := by
  intro m
  induction m with
  | zero => intro _; simp [vals]
  | succ m ih =>
    intro hm
    have ih := ih (by omega)
    obtain ⟨x, hx⟩ : ∃ x, ops[m]? = some x := ⟨_, List.getElem?_eq_getElem (by omega)⟩
    rcases Nat.lt_trichotomy m j with hlt | rfl | hgt
    · rw [if_neg (by omega)]
      rw [if_neg (by omega)] at ih
      simp only [vals, hx, Option.bind_some, withJ_ne L (Nat.ne_of_lt hlt)]
      cases L m
      · simpa using ih
      · simp only [cond_true]
        by_cases hd : x.dst = some t
        · rw [hd, putT_eq, putT_eq]
        · rw [putT_ne _ _ _ hd, putT_ne _ _ _ hd]; exact ih
    · rw [if_pos (by omega)]
      rw [if_neg (by omega)] at ih
      rw [hy] at hx
      obtain rfl : y = x := by simpa using hx
      simp only [vals, hy, Option.bind_some, withJ_same, cond_true, hj, cond_false]
      by_cases hd : y.dst = some t
      · rw [hd, putT_eq, putT_eq]
      · rw [putT_ne _ _ _ hd, putT_ne _ _ _ hd]; exact ih
    · rw [if_pos (by omega)]
      rw [if_pos (by omega)] at ih
      simp only [vals, hx, Option.bind_some, withJ_ne L (Nat.ne_of_gt hgt)]
      cases hL : L m with
      | false => simp only [cond_false]; exact ih
      | true =>
        simp only [cond_true]
        by_cases hd : x.dst = some t
        · have hyt : y.dst ≠ some t := fun e => by
            have hb := orderOK_clash hok hy hx hgt (clash_of_write e (.inr hd))
            have := hc.out m hL j hb
            rw [hj] at this; cases this
          rw [putT_ne _ _ _ hyt, hd, putT_eq, putT_eq]
        · rw [putT_ne _ _ _ hd, ih]
          by_cases hyt : y.dst = some t
          · rw [hyt, putT_eq, putT_eq]
          · rw [putT_ne _ _ _ hyt, putT_ne _ _ _ hyt, putT_ne _ _ _ hd]

theorem wantedT_congr {ops : List Oper} {o : Oper} {T T' : Nat → TV} (h : ∀ t ∈ looks ops o, T t = T' t) : wantedT ops.toArray T o = wantedT ops.toArray T' o := by
  unfold wantedT
  cases hg : o.guard with
  | none => rfl
  | some jw =>
    obtain ⟨j, want⟩ := jw
    simp only [List.getElem?_toArray]
    cases hd : (ops[j]?).bind (·.dst) with
    | none => rfl
    | some d =>
      have : T d = T' d := h d (by simp [looks, hg, hd])
      show (match T d with | .one (.v (.bool b)) => some (b == want) | .tup _ => some false | .when g (.one (.v (.bool b))) => some (g && (b == want)) | _ => none) = (match T' d with | .one (.v (.bool b)) => some (b == want) | .tup _ => some false | .when g (.one (.v (.bool b))) => some (g && (b == want)) | _ => none)
      rw [this]

theorem lev_congr {ops : List Oper} {o : Oper} {T T' : Nat → TV} (h : ∀ t ∈ looks ops o, T t = T' t) : ∀ x ∈ o.op.operands, lev T x = lev T' x := by
  intro x hx
  cases x with
  | tmp t => exact h t (by simp only [looks, List.mem_append, List.mem_filterMap]; exact .inl ⟨.tmp t, by simpa using hx, rfl⟩)
  | _ => rfl

def left (n : Nat) (L : Nat → Bool) : Nat := (List.range n).countP fun i => !L i

theorem left_with {n : Nat} {L : Nat → Bool} {j : Nat} (hj : j < n) (h : L j = false) : left n (withJ L j) + 1 = left n L := by
  induction n with
  | zero => omega
  | succ n ih =>
    unfold left at *
    rw [List.range_succ, List.countP_append, List.countP_append]
    simp only [List.countP_cons, List.countP_nil, Nat.zero_add]
    by_cases hjn : j = n
    · subst hjn
      simp only [withJ_same, h]
      have : (List.range j).countP (fun i => !withJ L j i) = (List.range j).countP (fun i => !L i) := by
        apply List.countP_congr
        intro i hi
        rw [withJ_ne L (Nat.ne_of_lt (List.mem_range.1 hi))]
      rw [this]; simp
    · have := ih (by omega)
      rw [withJ_ne L (fun e => hjn e.symm)]
      omega

theorem wpAnyIn_mono' {F : Fence} {n : Nat} {P : Program} {md : Region.Mode} {ops : Array Oper} {Q Q' : Exit → Act → World → Prop} (hq : ∀ e a w, Q e a w → Q' e a w) :
    ∀ (fuel : Nat) (listed : Array Bool) (a : Act) (w : World), wpAnyIn F n P md ops Q fuel listed a w → wpAnyIn F n P md ops Q' fuel listed a w := by
  intro fuel
  induction fuel with
  | zero => exact fun listed a w h => ⟨h.1, hq _ _ _ h.2⟩
  | succ fuel ih =>
    intro listed a w h
    refine ⟨fun hr => hq _ _ _ (h.1 hr), fun i hi => ?_⟩
    have := h.2 i hi
    unfold wpOpIn at *
    split
    · rename_i ho; rw [ho] at this; exact ih _ _ _ this
    · rename_i o ho
      rw [ho] at this
      simp only at this
      split
      · rename_i hw
        rw [if_pos hw] at this
        exact ⟨this.1, uponIn_mono (ih _) hq this.2⟩
      · rename_i hw
        rw [if_neg hw] at this
        exact ⟨this.1, ih _ _ _ this.2⟩

theorem Ext.drew (K : Kept) (w : World) : Ext K w K w.drew := ⟨fun _ _ h => ⟨h, rfl⟩, fun _ _ h => h, Nat.le_refl _, fun _ h => h⟩

theorem Inv.drew {G : Ctx} {S : LS} {K : Kept} {w : World} (h : Inv G S K w) : Inv G S K w.drew where
  below := h.below.drew
  base := h.base
  live := h.live
  box := fun b cs hb => by
    obtain ⟨h1, h2, c, T, h3, h4, h5, h6⟩ := h.box b cs hb
    exact ⟨h1, h2, c, T, h3, h4, fun j x v hj hv => (h5 j x v hj hv).mono (.drew K w), h6⟩
  row := h.row
  obj := h.obj
  top := h.top
  since := G.stable _ _ _ _ h.since (.drew K w)

end Go.Proofs.Ytgkjhlmfgaaddaa.LF
end

section
/- The frame's operations that make memory, or write to it. -/
namespace Go.Proofs.Ytgkjhlmfgaaddaa.LF
open Go.RowKit

theorem heap_old (w : World) (o : Obj) {b : Nat} (h : b < w.heap.size) : (w.alloc o).heap[b]? = w.heap[b]? := Below.heap_alloc w o b h

theorem Ext.alloc {G : Ctx} {S : LS} {K : Kept} {w : World} (h : Inv G S K w) (o : Obj) : Ext K w K (w.alloc o) where
  kept := fun b j hk => by
    obtain ⟨v, hv⟩ := h.live b j hk
    have := World.block_lt_of_cell? w _ hv
    exact ⟨hk, World.cell?_alloc_lt w o ⟨b, j, none⟩ this⟩
  shape := fun b s hs => by
    have hlt : b < w.heap.size := by
      rcases Nat.lt_or_ge b w.heap.size with h' | h'
      · exact h'
      · simp [World.shape?, Array.getElem?_eq_none h'] at hs
    unfold World.shape? at *
    rw [heap_old w o hlt]; exact hs
  size := by simp
  marks := fun b hb => by rw [heap_old w o (Array.getElem?_eq_some_iff.1 hb).1]; exact hb

theorem notKept_new {G : Ctx} {S : LS} {K : Kept} {w : World} (h : Inv G S K w) (j : Nat) : ¬ K w.heap.size j := fun hk => by
  obtain ⟨v, hv⟩ := h.live _ _ hk
  have := World.block_lt_of_cell? w _ hv
  simp at this

theorem Inv.alloc {G : Ctx} {S : LS} {K : Kept} {w : World} (h : Inv G S K w) (o : Obj) : Inv G S K (w.alloc o) where
  below := h.below.alloc h.base o
  base := by have := h.base; simp; omega
  live := fun b j hk => by
    obtain ⟨v, hv⟩ := h.live b j hk
    exact ⟨v, by rw [World.cell?_alloc_lt w o _ (World.block_lt_of_cell? w _ hv)]; exact hv⟩
  box := fun b cs hb => by
    obtain ⟨h1, h2, c, T, h3, h4, h5, h6⟩ := h.box b cs hb
    have := h.top
    exact ⟨h1, h2, c, T, by rw [heap_old w o (by omega)]; exact h3, h4, fun j x v hj hv => (h5 j x v hj hv).mono (.alloc h o), h6⟩
  row := fun b T n hr => by
    obtain ⟨h1, h2, h3, c, h4, h5⟩ := h.row b T n hr
    have := h.top
    exact ⟨h1, h2, h3, c, by rw [heap_old w o (by omega)]; exact h4, h5⟩
  obj := fun b o' hb => by
    obtain ⟨h1, h2, h3, h4⟩ := h.obj b o' hb
    exact ⟨h1, h2, by rw [heap_old w o (Array.getElem?_eq_some_iff.1 h3).1]; exact h3, h4⟩
  top := by have := h.top; simp; omega
  since := G.stable _ _ _ _ h.since (.alloc h o)

def LS.newBox (S : LS) (b : Nat) (cs : List LV) : LS := { S with box := fun x => bif Nat.beq x b then some cs else S.box x, top := b + 1 }
def LS.setBox (S : LS) (b : Nat) (cs : List LV) : LS := { S with box := fun x => bif Nat.beq x b then some cs else S.box x }
def LS.newRow (S : LS) (b : Nat) (T : TypeId) (n : Nat) : LS := { S with row := fun x => bif Nat.beq x b then some (T, n) else S.row x, top := b + 1 }

theorem beq_cases {α : Type} (x b : Nat) (u v : α) : (x = b ∧ (bif Nat.beq x b then u else v) = u) ∨ (x ≠ b ∧ (bif Nat.beq x b then u else v) = v) := by
  by_cases h : x = b
  · subst h; left; simp
  · right
    have : Nat.beq x b = false := by cases hb : Nat.beq x b with
      | false => rfl
      | true => exact absurd (Nat.eq_of_beq_eq_true hb) h
    simp [h, this]

theorem Inv.newBox {G : Ctx} {S : LS} {K : Kept} {w : World} (h : Inv G S K w) (c : Array Value) (T : TypeId) (cs : List LV) (hs : c.size = cs.length)
    (hr : ∀ (j : Nat) x v, cs[j]? = some x → c[j]? = some v → Rep G w K x v) : Inv G (S.newBox w.heap.size cs) K (w.alloc (.cells c T)) := by
  have ha := h.alloc (.cells c T)
  refine { ha with box := fun b cs' hb => ?_, row := fun b T' n hb => ?_, obj := fun b o hb => ?_, top := by simp [LS.newBox] }
  · simp only [LS.newBox] at hb ⊢
    rcases beq_cases b w.heap.size (some cs) (S.box b) with ⟨rfl, e⟩ | ⟨hne, e⟩
    · rw [e] at hb
      obtain rfl : cs = cs' := by simpa using hb
      exact ⟨h.base, by omega, c, T, heap_alloc_new w _, hs, fun j x v hj hv => (hr j x v hj hv).mono (.alloc h _), notKept_new h⟩
    · rw [e] at hb
      obtain ⟨h1, h2, h3⟩ := ha.box b cs' hb
      have := h.top
      exact ⟨h1, by omega, h3⟩
  · have hb' : S.row b = some (T', n) := hb
    obtain ⟨h1, h2, h3, h4⟩ := ha.row b T' n hb'
    have := h.top
    refine ⟨h1, by simp only [LS.newBox]; omega, ?_, h4⟩
    simp only [LS.newBox]
    rcases beq_cases b w.heap.size (some cs) (S.box b) with ⟨rfl, e⟩ | ⟨_, e⟩
    · omega
    · rw [e]; exact h3
  · have hb' : S.obj b = some o := hb
    obtain ⟨h1, h2, h3⟩ := ha.obj b o hb'
    have := h.top
    exact ⟨h1, by simp only [LS.newBox]; omega, h3⟩

/-- The cells of a value. -/
def tcells : TV → Option (List LV)
  | .one x => some [x]
  | .agg l => some l
  | _ => none

theorem RepT.cells {G : Ctx} {w : World} {K : Kept} {r : TV} {v : Value} {l : List LV} (h : RepT G w K r v) (hl : tcells r = some l) : v.cells.size = l.length ∧ ∀ (j : Nat) x u, l[j]? = some x → v.cells[j]? = some u → Rep G w K x u := by
  cases h with
  | one h =>
    obtain rfl : [_] = l := by simpa [tcells] using hl
    have : v.cells = #[v] := by cases h <;> first | rfl | (rename_i h1; cases v <;> first | rfl | (simp [Value.oneCell'] at h1))
    rw [this]
    refine ⟨rfl, fun j x u hj hu => ?_⟩
    cases j with
    | zero => simp at hj hu; subst hj; subst hu; exact h
    | succ j => simp at hj
  | agg l' vs hs h =>
    obtain rfl : l' = l := by simpa [tcells] using hl
    exact ⟨hs, h⟩
  | _ => simp [tcells] at hl

theorem Rep.oneCell {G : Ctx} {w : World} {K : Kept} {x : LV} {v : Value} (h : Rep G w K x v) : v.oneCell' = true := by
  cases h <;> first | rfl | assumption

theorem LDo.of_run {G : Ctx} {o : Oper} {T : Nat → TV} {S : LS} {R : TV → LS → Prop}
    (h : ∀ (K : Kept) (w : World) (a : Act), Inv G S K w → (∀ x ∈ o.op.operands, RepT G w K (lev T x) (a.eval x)) → ∃ r v S' K' w', (execOp a.eval o).run G.P w = .ok (.value v) w' ∧ RepT G w' K' r v ∧ Inv G S' K' w' ∧ Ext K w K' w' ∧ R r S') : LDo G o T S R := by
  intro K w a hi hr
  obtain ⟨r, v, S', K', w', h1, h2, h3, h4, h5⟩ := h K w a hi hr
  unfold Oper.wp
  rw [h1]
  exact ⟨r, v, S', K', rfl, h2, h3, h4, h5⟩

/-- A logical memory in which each block lies below its end. -/
structure LS.wf (S : LS) : Prop where
  box : ∀ b, S.top ≤ b → S.box b = none
  row : ∀ b, S.top ≤ b → S.row b = none
  obj : ∀ b, S.top ≤ b → S.obj b = none

theorem Inv.wf {G : Ctx} {S : LS} {K : Kept} {w : World} (h : Inv G S K w) : S.wf := by
  refine ⟨fun b hb => ?_, fun b hb => ?_, fun b hb => ?_⟩
  · cases hq : S.box b with
    | none => rfl
    | some cs => have := (h.box b cs hq).2.1; omega
  · cases hq : S.row b with
    | none => rfl
    | some x => have := (h.row b x.1 x.2 hq).2.1; omega
  · cases hq : S.obj b with
    | none => rfl
    | some x => have := (h.obj b x hq).2.1; omega

theorem Inv.wf' {G : Ctx} {S : LS} {K : Kept} {w : World} (h : Inv G S K w) : (∀ b, S.top ≤ b → S.box b = none) ∧ (∀ b, S.top ≤ b → S.row b = none) := ⟨h.wf.box, h.wf.row⟩

/-- A block that is not yet. -/
structure LS.fresh (S : LS) (b : Nat) : Prop where
  top : S.top ≤ b
  box : S.box b = none
  row : S.row b = none
  obj : S.obj b = none

theorem Inv.fresh {G : Ctx} {S : LS} {K : Kept} {w : World} (h : Inv G S K w) : S.fresh w.heap.size := ⟨h.top, h.wf.box _ h.top, h.wf.row _ h.top, h.wf.obj _ h.top⟩

/-- A new variable. -/
theorem LDo.alloc {G : Ctx} {D : Tab} (hD : TabOK G.P D) {o : Oper} {T : Nat → TV} {S : LS} {t : TypeId} {i : TI} (ho : o.op = .alloc t) (hi : D.get t = some i) (hz : i.zero.cells.toList.all Value.oneCell' = true) :
    LDo G o T S (fun r S' => ∃ b, S.fresh b ∧ r = .one (.v (.pointer (some ⟨b, 0, none⟩))) ∧ S' = S.newBox b (i.zero.cells.toList.map constLV)) :=
  .of_run fun K w a hi' hr => by
    have hrun : (execOp a.eval o).run G.P w = .ok (.value (.pointer (some ⟨w.heap.size, 0, none⟩))) (w.alloc (.cells i.zero.cells t)) := by
      simp [execOp, ho, Instr.alloc, run_zero' (hD.get hi), newVar, newRow]
    refine ⟨_, _, S.newBox w.heap.size (i.zero.cells.toList.map constLV), K, _, hrun, .raw rfl, hi'.newBox _ _ _ (by simp) (fun j x v hj hv => ?_), .alloc hi' _, w.heap.size, hi'.fresh, rfl, rfl⟩
    rw [List.getElem?_map] at hj
    have : i.zero.cells.toList[j]? = some v := by simpa using hv
    rw [this] at hj
    simp only [Option.map_some, Option.some.injEq] at hj
    subst hj
    exact constLV_rep G w K v (List.all_eq_true.1 hz v (List.mem_of_getElem? this))

/-- A variable with a value. -/
theorem LDo.box {G : Ctx} {o : Oper} {T : Nat → TV} {S : LS} {t : TypeId} {x : Operand} {l : List LV} (ho : o.op = .box t x) (hx : tcells (lev T x) = some l) :
    LDo G o T S (fun r S' => ∃ b, S.fresh b ∧ r = .one (.v (.pointer (some ⟨b, 0, none⟩))) ∧ S' = S.newBox b l) :=
  .of_run fun K w a hi' hr => by
    have h1 := hr x (by rw [ho]; simp [Op.operands])
    obtain ⟨h2, h3⟩ := h1.cells hx
    have hrun : (execOp a.eval o).run G.P w = .ok (.value (.pointer (some ⟨w.heap.size, 0, none⟩))) (w.alloc (.cells (a.eval x).cells t)) := by
      simp [execOp, ho, Instr.box, newVar, newRow]
    exact ⟨_, _, S.newBox w.heap.size l, K, _, hrun, .raw rfl, hi'.newBox _ _ _ h2 h3, .alloc hi' _, w.heap.size, hi'.fresh, rfl, rfl⟩

/-- Cells put in the place of others. -/
def splice (cs : List LV) (off : Nat) (l : List LV) : List LV := cs.take off ++ l ++ cs.drop (off + l.length)

theorem splice_length {cs l : List LV} {off : Nat} (h : off + l.length ≤ cs.length) : (splice cs off l).length = cs.length := by
  simp [splice]; omega

theorem splice_get {cs l : List LV} {off : Nat} (h : off + l.length ≤ cs.length) (j : Nat) : (splice cs off l)[j]? = if j < off then cs[j]? else if j < off + l.length then l[j - off]? else cs[j]? := by
  unfold splice
  rw [List.append_assoc]
  by_cases h1 : j < off
  · rw [if_pos h1, List.getElem?_append_left (by simp; omega), List.getElem?_take, if_pos h1]
  · rw [if_neg h1, List.getElem?_append_right (by simp; omega)]
    rw [List.length_take, Nat.min_eq_left (by omega)]
    by_cases h2 : j < off + l.length
    · rw [if_pos h2, List.getElem?_append_left (by omega)]
    · rw [if_neg h2, List.getElem?_append_right (by omega), List.getElem?_drop]
      congr 1; omega

theorem Inv.setBox {G : Ctx} {S : LS} {K : Kept} {w : World} (h : Inv G S K w) {b : Nat} {cs : List LV} (hb : S.box b = some cs) {off : Nat} {l : List LV} (hl : off + l.length ≤ cs.length)
    {vs : List Value} (hv : vs.length = l.length) (hrep : ∀ (j : Nat) x v, l[j]? = some x → vs[j]? = some v → Rep G w K x v) (c : Array Value) (T : TypeId) (hc : w.heap[b]? = some (.cells c T (0, 0))) :
    Inv G (S.setBox b (splice cs off l)) K (w.setRow b (c.toList.take off ++ vs ++ c.toList.drop (off + vs.length)).toArray) ∧ Ext K w K (w.setRow b (c.toList.take off ++ vs ++ c.toList.drop (off + vs.length)).toArray) := by
  obtain ⟨b1, b2, c', T', b3, b4, b5, b6⟩ := h.box b cs hb
  rw [hc] at b3
  obtain ⟨rfl, rfl⟩ : c = c' ∧ T = T' := by simpa using b3
  generalize hc2 : (c.toList.take off ++ vs ++ c.toList.drop (off + vs.length)).toArray = c2
  have hsz : c2.size = c.size := by rw [← hc2]; simp; omega
  have hget : ∀ j : Nat, c2[j]? = if j < off then c[j]? else if j < off + l.length then vs[j - off]? else c[j]? := by
    intro j
    rw [← hc2, List.getElem?_toArray, List.append_assoc]
    by_cases h1 : j < off
    · rw [if_pos h1, List.getElem?_append_left (by simp; omega), List.getElem?_take, if_pos h1]; simp
    · rw [if_neg h1, List.getElem?_append_right (by simp; omega)]
      rw [List.length_take, Nat.min_eq_left (by simp; omega)]
      by_cases h2 : j < off + l.length
      · rw [if_pos h2, List.getElem?_append_left (by omega)]
      · rw [if_neg h2, List.getElem?_append_right (by omega), List.getElem?_drop]
        simp only [Array.getElem?_toList]
        congr 1; omega
  have hother : ∀ k, k ≠ b → (w.setRow b c2).heap[k]? = w.heap[k]? := fun k hk => setRow_other w b k c2 hk
  have hsame : (w.setRow b c2).heap[b]? = some (.cells c2 T (0, 0)) := setRow_heap w b c c2 T (0, 0) hc
  have hx : Ext K w K (w.setRow b c2) := by
    refine ⟨fun k j hk => ⟨hk, ?_⟩, fun k s hs => ?_, by simp, fun k hk => ?_⟩
    · have : k ≠ b := fun e => b6 j (e ▸ hk)
      exact World.cell?_of_block (a := ⟨k, j, none⟩) (hother k this)
    · by_cases e : k = b
      · subst e
        simp only [World.shape?, hc, hsame, hsz] at hs ⊢
        exact hs
      · simp only [World.shape?, hother k e] at hs ⊢
        exact hs
    · have : k ≠ b := fun e => by subst e; rw [hc] at hk; cases hk
      rw [hother k this]; exact hk
  refine ⟨⟨?_, ?_, fun k j hk => ?_, fun k cs' hk => ?_, fun k T' n hk => ?_, fun k o hk => ?_, ?_, G.stable _ _ _ _ h.since hx⟩, hx⟩
  · exact h.below.trans ⟨rfl, rfl, rfl, by simp, fun k hk => hother k (by omega)⟩
  · simpa using h.base
  · obtain ⟨v, hv⟩ := h.live k j hk
    exact ⟨v, by rw [(hx.kept k j hk).2]; exact hv⟩
  · simp only [LS.setBox] at hk ⊢
    rcases beq_cases k b (some (splice cs off l)) (S.box k) with ⟨rfl, e⟩ | ⟨hne, e⟩
    · rw [e] at hk
      obtain rfl : splice cs off l = cs' := by simpa using hk
      refine ⟨b1, b2, c2, T, hsame, by rw [hsz, b4, splice_length hl], fun j x v hj hv => ?_, b6⟩
      rw [splice_get hl] at hj
      rw [hget] at hv
      split at hj
      · exact (b5 j x v hj (by simpa [*] using hv)).mono hx
      · rename_i n1
        rw [if_neg n1] at hv
        split at hj
        · rename_i p1; rw [if_pos p1] at hv; exact (hrep _ _ _ hj hv).mono hx
        · rename_i p1; rw [if_neg p1] at hv; exact (b5 j x v hj hv).mono hx
    · rw [e] at hk
      obtain ⟨h1, h2, c3, T3, h3, h4, h5, h6⟩ := h.box k cs' hk
      exact ⟨h1, h2, c3, T3, by rw [hother k hne]; exact h3, h4, fun j x v hj hv => (h5 j x v hj hv).mono hx, h6⟩
  · obtain ⟨h1, h2, h3, c3, h4, h5⟩ := h.row k T' n hk
    have hne : k ≠ b := fun e => by subst e; rw [hb] at h3; cases h3
    refine ⟨h1, h2, ?_, c3, by rw [hother k hne]; exact h4, h5⟩
    simp only [LS.setBox]
    rcases beq_cases k b (some (splice cs off l)) (S.box k) with ⟨e, _⟩ | ⟨_, e⟩
    · exact absurd e hne
    · rw [e]; exact h3
  · have hk' : S.obj k = some o := hk
    obtain ⟨h1, h2, h3, h4⟩ := h.obj k o hk'
    have : k ≠ b := fun e => by
      subst e
      rw [hc] at h3
      obtain rfl : Obj.cells c T (0, 0) = o := by simpa using h3
      simp [Obj.isCells] at h4
    exact ⟨h1, h2, by rw [hother k this]; exact h3, h4⟩
  · have := h.top
    simpa [LS.setBox] using this

/-- A store into a block that may be written. -/
theorem LDo.store {G : Ctx} {D : Tab} (hD : TabOK G.P D) {o : Oper} {T : Nat → TV} {S : LS} {t : TypeId} {p x : Operand} {b off : Nat} {cs l : List LV} {i : TI} (ho : o.op = .store t p x)
    (hp : lev T p = .one (.v (.pointer (some ⟨b, off, none⟩)))) (hb : S.box b = some cs) (hx : tcells (lev T x) = some l) (hi : D.get t = some i) (hn' : Nat.beq l.length i.size = true) (hl' : Nat.ble (off + l.length) cs.length = true) :
    LDo G o T S (fun r S' => r = .any ∧ S' = S.setBox b (splice cs off l)) := by
  have hn : l.length = i.size := Nat.eq_of_beq_eq_true hn'
  have hl : off + l.length ≤ cs.length := Nat.le_of_ble_eq_true hl'
  intro K w a hi' hr
  have h1 := hr p (by rw [ho]; simp [Op.operands])
  have h2 := hr x (by rw [ho]; simp [Op.operands])
  rw [hp] at h1
  obtain ⟨e1, e2⟩ := h2.cells hx
  obtain ⟨c, T0, c1, c2, _⟩ := hi'.cells hb
  have h1c : ∀ v ∈ (a.eval x).cells.toList, v.oneCell' = true := by
    intro v hv
    obtain ⟨j, hj⟩ := List.getElem?_of_mem hv
    have hjl : j < l.length := by rw [← e1]; simpa using (List.getElem?_eq_some_iff.1 hj).1
    exact (e2 j _ v (List.getElem?_eq_getElem hjl) (by simpa using hj)).oneCell
  have hst := run_storeCells_at G.P b off T0 (a.eval x).cells.toList 0 c w c1 (by simp; omega) h1c
  have hrun : (execOp a.eval o).run G.P w = .ok .skip (w.setRow b (c.toList.take off ++ (a.eval x).cells.toList ++ c.toList.drop (off + (a.eval x).cells.toList.length)).toArray) := by
    have hne : (a.eval x).cells.size = i.size := by omega
    simp only [Nat.add_zero] at hst
    simp [execOp, ho, h1.flat, Instr.storeAt, Instr.sureAddr, storeVar, run_sizeOf' (hD.get hi), hne, hst]
  obtain ⟨j1, j2⟩ := hi'.setBox hb hl (vs := (a.eval x).cells.toList) (by simpa using e1) (fun j x v hj hv => e2 j x v hj (by simpa using hv)) c T0 c1
  unfold Oper.wp
  rw [hrun]
  exact ⟨.any, undef, _, K, rfl, .any _, j1, j2, rfl, rfl⟩

/-- A call that may turn the logical memory. -/
theorem LDo.call {G : Ctx} {o : Oper} {T : Nat → TV} {S : LS} {f : FuncId} {fn : Func} {xs : List Operand} {ts : Array TypeId} {args : List TV} {R : TV → LS → Prop}
    (ho : o.op = .call { callee := .value (.func f), args := xs.toArray, argTypes := ts }) (hx : xs.map (fun x => shTV (lev T x)) = args) (hf : G.P.funcs[f]? = some fn) (hb : fn.body.isSome = true) (hn : fn.name ≠ "runtime.NumGoroutine")
    (h : LCalls G f args R S) : LDo G o T S R := by
  intro K w a hi hr
  have hrun : (execOp a.eval o).run G.P w = .ok (.enter f (xs.map a.eval).toArray) w := by
    have hbn : fn.body ≠ none := fun e => by rw [e] at hb; cases hb
    simp [execOp, ho, resolve, Act.eval, Deferred.ofValue, invoke, callFunc, hf, hn, hbn]
  unfold Oper.wp
  rw [hrun]
  refine (h K w _ hi ⟨by rw [← hx]; simp, fun i x v hx' hv => ?_⟩).mono fun e w' hp => ?_
  · subst hx
    rw [List.getElem?_map] at hx'
    rw [List.getElem?_toArray, List.getElem?_map] at hv
    cases hq : xs[i]? with
    | none => rw [hq] at hx'; simp at hx'
    | some y =>
      rw [hq] at hx' hv
      simp only [Option.map_some, Option.some.injEq] at hx' hv
      subst hx'; subst hv
      exact (hr y (by rw [ho]; simp [Op.operands, Call.operands]; exact .inr (List.mem_of_getElem? hq))).shTV
  · obtain ⟨r', v, S', K', rfl, h2, h3, h4, h5⟩ := hp
    exact ⟨r', v, S', K', rfl, h2, h3, h4, h5⟩

/-- A smaller logical memory. -/
structure LS.le (S S' : LS) : Prop where
  box : ∀ b cs, S.box b = some cs → S'.box b = some cs
  row : ∀ b x, S.row b = some x → S'.row b = some x
  obj : ∀ b x, S.obj b = some x → S'.obj b = some x
  top : S.top ≤ S'.top

theorem LS.le.refl (S : LS) : S.le S := ⟨fun _ _ h => h, fun _ _ h => h, fun _ _ h => h, Nat.le_refl _⟩
theorem LS.le.trans {S S' S'' : LS} (h : S.le S') (k : S'.le S'') : S.le S'' := ⟨fun b cs hb => k.box b cs (h.box b cs hb), fun b x hb => k.row b x (h.row b x hb), fun b x hb => k.obj b x (h.obj b x hb), Nat.le_trans h.top k.top⟩

/-- Forgetting what a call made for itself. -/
theorem Inv.forget {G : Ctx} {S S' : LS} {K : Kept} {w : World} (h : Inv G S' K w) (hle : S.le S') (hwf : S.wf) (hrow : ∀ b x, S.row b = some x → S.box b = none) : Inv G S K w where
  below := h.below
  base := h.base
  live := h.live
  box := fun b cs hb => by
    obtain ⟨h1, _, h2⟩ := h.box b cs (hle.box b cs hb)
    refine ⟨h1, ?_, h2⟩
    rcases Nat.lt_or_ge b S.top with h' | h'
    · exact h'
    · rw [hwf.box b h'] at hb; cases hb
  row := fun b T n hb => by
    obtain ⟨h1, _, _, h2⟩ := h.row b T n (hle.row b _ hb)
    refine ⟨h1, ?_, hrow b _ hb, h2⟩
    rcases Nat.lt_or_ge b S.top with h' | h'
    · exact h'
    · rw [hwf.row b h'] at hb; cases hb
  obj := fun b o hb => by
    obtain ⟨h1, _, h2⟩ := h.obj b o (hle.obj b _ hb)
    refine ⟨h1, ?_, h2⟩
    rcases Nat.lt_or_ge b S.top with h' | h'
    · exact h'
    · rw [hwf.obj b h'] at hb; cases hb
  top := Nat.le_trans hle.top h.top
  since := h.since

theorem LCalls.forget {G : Ctx} {f : FuncId} {args : List TV} {Q : TV → LS → Prop} {S : LS} (h : LCalls G f args (fun r S' => S.le S' ∧ Q r S) S) : LCalls G f args (fun r S' => S' = S ∧ Q r S) S := by
  intro K w vals h1 h2
  refine (h K w vals h1 h2).mono fun e w' hp => ?_
  obtain ⟨r, v, S', K', e1, e2, e3, e4, e5, e6⟩ := hp
  exact ⟨r, v, S, K', e1, e2, e3.forget e5 h1.wf (fun b x hb => (h1.row b x.1 x.2 hb).2.2.1), e4, rfl, e6⟩

theorem LFun.of {G : Ctx} {f : FuncId} {args : List TV} {r : TV} (h : ∀ S, LCalls G f args (fun r' S' => r' = r ∧ S.le S') S) : LFun G f args r := fun S => by
  have h1 : LCalls G f args (fun r' S' => S.le S' ∧ r' = r) S := fun K w vals a b => (h S K w vals a b).mono fun e w' hp => by
    obtain ⟨r', v, S', K', e1, e2, e3, e4, e5, e6⟩ := hp
    exact ⟨r', v, S', K', e1, e2, e3, e4, e6, e5⟩
  intro K w vals a b
  refine (LCalls.forget (Q := fun r' _ => r' = r) h1 K w vals a b).mono fun e w' hp => ?_
  obtain ⟨r', v, S', K', e1, e2, e3, e4, e5, e6⟩ := hp
  exact ⟨r', v, S', K', e1, e2, e3, e4, e6, e5⟩

theorem LS.le.newBox {S S' : LS} (h : S.le S') {b : Nat} (hb : S'.fresh b) (cs : List LV) : S.le (S'.newBox b cs) := by
  refine ⟨fun x cs' hx => ?_, fun x y hx => h.row x y hx, fun x y hx => h.obj x y hx, by have := h.top; have := hb.top; simp only [LS.newBox]; omega⟩
  have h1 := h.box x cs' hx
  simp only [LS.newBox]
  rcases beq_cases x b (some cs) (S'.box x) with ⟨rfl, _⟩ | ⟨_, e⟩
  · rw [hb.box] at h1; cases h1
  · rw [e]; exact h1

theorem LS.le.newRow {S S' : LS} (h : S.le S') {b : Nat} (hb : S'.fresh b) (T : TypeId) (n : Nat) : S.le (S'.newRow b T n) := by
  refine ⟨fun x cs' hx => h.box x cs' hx, fun x y hx => ?_, fun x y hx => h.obj x y hx, by have := h.top; have := hb.top; simp only [LS.newRow]; omega⟩
  have h1 := h.row x y hx
  simp only [LS.newRow]
  rcases beq_cases x b (some (T, n)) (S'.row x) with ⟨rfl, _⟩ | ⟨_, e⟩
  · rw [hb.row] at h1; cases h1
  · rw [e]; exact h1

theorem LS.le.setBox {S S' : LS} (h : S.le S') {b : Nat} (hb : S.box b = none) (cs : List LV) : S.le (S'.setBox b cs) := by
  refine ⟨fun x cs' hx => ?_, fun x y hx => h.row x y hx, fun x y hx => h.obj x y hx, h.top⟩
  have h1 := h.box x cs' hx
  simp only [LS.setBox]
  rcases beq_cases x b (some cs) (S'.box x) with ⟨rfl, _⟩ | ⟨_, e⟩
  · rw [hb] at hx; cases hx
  · rw [e]; exact h1

theorem box_new (S : LS) (b : Nat) (cs : List LV) : (S.newBox b cs).box b = some cs := by simp [LS.newBox]
theorem box_set (S : LS) (b : Nat) (cs : List LV) : (S.setBox b cs).box b = some cs := by simp [LS.setBox]
theorem box_new_ne (S : LS) {b b' : Nat} (cs : List LV) (h : b' ≠ b) : (S.newBox b cs).box b' = S.box b' := by
  simp only [LS.newBox]
  rcases beq_cases b' b (some cs) (S.box b') with ⟨e, _⟩ | ⟨_, e⟩
  · exact absurd e h
  · exact e
theorem box_set_ne (S : LS) {b b' : Nat} (cs : List LV) (h : b' ≠ b) : (S.setBox b cs).box b' = S.box b' := by
  simp only [LS.setBox]
  rcases beq_cases b' b (some cs) (S.box b') with ⟨e, _⟩ | ⟨_, e⟩
  · exact absurd e h
  · exact e
theorem box_row (S : LS) (b b' : Nat) (T : TypeId) (n : Nat) : (S.newRow b T n).box b' = S.box b' := rfl
theorem row_new (S : LS) (b : Nat) (T : TypeId) (n : Nat) : (S.newRow b T n).row b = some (T, n) := by simp [LS.newRow]
theorem row_box (S : LS) (b b' : Nat) (cs : List LV) : (S.newBox b cs).row b' = S.row b' := rfl
theorem row_set (S : LS) (b b' : Nat) (cs : List LV) : (S.setBox b cs).row b' = S.row b' := rfl
theorem row_new_ne (S : LS) {b b' : Nat} (T : TypeId) (n : Nat) (h : b' ≠ b) : (S.newRow b T n).row b' = S.row b' := by
  simp only [LS.newRow]
  rcases beq_cases b' b (some (T, n)) (S.row b') with ⟨e, _⟩ | ⟨_, e⟩
  · exact absurd e h
  · exact e
theorem fresh_ne {S : LS} {b b' : Nat} {cs : List LV} (h : S.fresh b) (h' : S.box b' = some cs) : b' ≠ b := fun e => by subst e; rw [h.box] at h'; cases h'

end Go.Proofs.Ytgkjhlmfgaaddaa.LF
end

section
/- The frame's slices of the call's own: literals, append. -/
namespace Go.Proofs.Ytgkjhlmfgaaddaa.LF
open Go.RowKit

/-- A row's cells, one behind the other. -/
structure Flat (G : Ctx) (w : World) (K : Kept) (z : Nat) (es : List (List LV)) (vs : List Value) : Prop where
  len : vs.length = es.length * z
  each : ∀ e ∈ es, e.length = z
  rep : ∀ (i j : Nat) x, cellOf es i j = some x → ∃ v, vs[i * z + j]? = some v ∧ Rep G w K x v

theorem cellOf_lt {es : List (List LV)} {z : Nat} (h : ∀ e ∈ es, e.length = z) {i j : Nat} {x : LV} (hx : cellOf es i j = some x) : i < es.length ∧ j < z := by
  unfold cellOf at hx
  cases he : es[i]? with
  | none => rw [he] at hx; simp at hx
  | some e =>
    rw [he] at hx
    simp only [Option.bind_some] at hx
    have h1 := (List.getElem?_eq_some_iff.1 he).1
    have h2 := (List.getElem?_eq_some_iff.1 hx).1
    have h3 := h e (List.mem_of_getElem? he)
    exact ⟨h1, by omega⟩

theorem cellOf_some {es : List (List LV)} {z : Nat} (h : ∀ e ∈ es, e.length = z) {i j : Nat} (hi : i < es.length) (hj : j < z) : ∃ x, cellOf es i j = some x := by
  have h3 := h es[i] (List.getElem_mem hi)
  exact ⟨es[i][j], by simp [cellOf, hi, h3, hj]⟩

theorem lt_mul {i j n z : Nat} (hi : i < n) (hj : j < z) : i * z + j < n * z := by
  have : (i + 1) * z ≤ n * z := Nat.mul_le_mul_right z hi
  rw [Nat.add_mul] at this
  omega

theorem Flat.mono {G : Ctx} {w w' : World} {K K' : Kept} {z : Nat} {es : List (List LV)} {vs : List Value} (hx : Ext K w K' w') (h : Flat G w K z es vs) : Flat G w' K' z es vs :=
  ⟨h.len, h.each, fun i j x hx' => by obtain ⟨v, h1, h2⟩ := h.rep i j x hx'; exact ⟨v, h1, h2.mono hx⟩⟩

theorem Flat.oneCell {G : Ctx} {w : World} {K : Kept} {z : Nat} {es : List (List LV)} {vs : List Value} (h : Flat G w K z es vs) : ∀ v ∈ vs, v.oneCell' = true := by
  intro v hv
  obtain ⟨q, hq⟩ := List.getElem?_of_mem hv
  have hlt := (List.getElem?_eq_some_iff.1 hq).1
  rw [h.len] at hlt
  have hz : 0 < z := by
    rcases Nat.eq_zero_or_pos z with e | e
    · subst e; simp at hlt
    · exact e
  have hi : q / z < es.length := (Nat.div_lt_iff_lt_mul hz).2 hlt
  obtain ⟨x, hx⟩ := cellOf_some h.each hi (Nat.mod_lt q hz)
  obtain ⟨u, h1, h2⟩ := h.rep _ _ x hx
  rw [Nat.mul_comm, Nat.div_add_mod] at h1
  rw [hq] at h1
  obtain rfl : v = u := by simpa using h1
  exact h2.oneCell

theorem Flat.append {G : Ctx} {w : World} {K : Kept} {z : Nat} {es es' : List (List LV)} {vs vs' : List Value} (h : Flat G w K z es vs) (h' : Flat G w K z es' vs') : Flat G w K z (es ++ es') (vs ++ vs') := by
  refine ⟨by rw [List.length_append, List.length_append, h.len, h'.len, Nat.add_mul], fun e he => ?_, fun i j x hx => ?_⟩
  · rcases List.mem_append.1 he with he | he
    · exact h.each e he
    · exact h'.each e he
  · have heach : ∀ e ∈ es ++ es', e.length = z := fun e he => by
      rcases List.mem_append.1 he with he | he
      · exact h.each e he
      · exact h'.each e he
    obtain ⟨h1, h2⟩ := cellOf_lt heach hx
    by_cases hi : i < es.length
    · have hx' : cellOf es i j = some x := by
        unfold cellOf at hx ⊢
        rw [List.getElem?_append_left hi] at hx
        exact hx
      obtain ⟨v, e1, e2⟩ := h.rep i j x hx'
      exact ⟨v, by rw [List.getElem?_append_left (by rw [h.len]; exact lt_mul hi h2)]; exact e1, e2⟩
    · have hx' : cellOf es' (i - es.length) j = some x := by
        unfold cellOf at hx ⊢
        rw [List.getElem?_append_right (by omega)] at hx
        exact hx
      obtain ⟨v, e1, e2⟩ := h'.rep _ j x hx'
      have hle : es.length * z ≤ i * z := Nat.mul_le_mul_right z (by omega)
      refine ⟨v, ?_, e2⟩
      rw [List.getElem?_append_right (by rw [h.len]; omega), h.len]
      rw [Nat.sub_mul] at e1
      rw [show i * z + j - es.length * z = i * z - es.length * z + j by omega]
      exact e1

/-- A row that is read. -/
theorem Rep.flat {G : Ctx} {w : World} {K : Kept} {o : Own} {es : List (List LV)} {v : Value} {z : Nat} (h : Rep G w K (.sl o es) v) (hz0 : 0 < z) (hz : ∀ e ∈ es, e.length = z) (hne : es ≠ []) :
    ∃ b off cap vs, v = .slice (some ⟨b, off, none⟩) es.length cap ∧ es.length ≤ cap ∧ Flat G w K z es vs ∧ (∀ (q : Nat) u, vs[q]? = some u → w.cell? ⟨b, off + q, none⟩ = some u ∧ K b (off + q)) ∧
      (∀ b', o = .own b' → b' = b ∧ off = 0 ∧ ∃ T n, w.shape? b = some (T, n) ∧ z = G.P.cellsOf T ∧ n = cap * z ∧ cap ≤ maxLen) := by
  cases h with
  | nil => exact absurd rfl hne
  | emp a cap => exact absurd rfl hne
  | row _ _ b off cap z' c hn hcap hz' ho hc hr =>
    have e : z' = z := by
      obtain ⟨x, hx⟩ := List.exists_mem_of_ne_nil es hne
      rw [← hz' x hx, hz x hx]
    subst e
    refine ⟨b, off, cap, (List.range (es.length * z')).map (fun q => c (q / z') (q % z')), rfl, hcap, ⟨by simp, hz, fun i j x hx => ?_⟩, fun q u hq => ?_, ho⟩
    · obtain ⟨h1, h2⟩ := cellOf_lt hz hx
      refine ⟨c i j, ?_, hr i j x hx⟩
      rw [List.getElem?_map, List.getElem?_range (lt_mul h1 h2)]
      simp only [Option.map_some, Option.some.injEq]
      rw [Nat.mul_comm i z', Nat.mul_add_div hz0, Nat.mul_add_mod, Nat.div_eq_of_lt h2, Nat.mod_eq_of_lt h2, Nat.add_zero]
    · have hlt := (List.getElem?_eq_some_iff.1 hq).1
      rw [List.length_map, List.length_range] at hlt
      rw [List.getElem?_map, List.getElem?_range hlt] at hq
      simp only [Option.map_some, Option.some.injEq] at hq
      subst hq
      have hi : q / z' < es.length := (Nat.div_lt_iff_lt_mul hz0).2 hlt
      obtain ⟨x, hx⟩ := cellOf_some hz hi (Nat.mod_lt q hz0)
      have := hc _ _ x hx
      rw [Nat.mul_comm, Nat.div_add_mod] at this
      exact this

theorem Rep.ofFlat {G : Ctx} {w : World} {K : Kept} {o : Own} {es : List (List LV)} {z b off cap : Nat} {vs : List Value} (hf : Flat G w K z es vs) (hn : o ≠ .nil) (hcap : es.length ≤ cap)
    (hc : ∀ (q : Nat) u, vs[q]? = some u → w.cell? ⟨b, off + q, none⟩ = some u ∧ K b (off + q))
    (ho : ∀ b', o = .own b' → b' = b ∧ off = 0 ∧ ∃ T n, w.shape? b = some (T, n) ∧ z = G.P.cellsOf T ∧ n = cap * z ∧ cap ≤ maxLen) : Rep G w K (.sl o es) (.slice (some ⟨b, off, none⟩) es.length cap) := by
  refine .row o es b off cap z (fun i j => vs.getD (i * z + j) undef) hn hcap hf.each ho (fun i j x hx => ?_) fun i j x hx => ?_
  · obtain ⟨v, h1, h2⟩ := hf.rep i j x hx
    obtain ⟨h3, h4⟩ := hc _ v h1
    rw [List.getD_eq_getElem?_getD, h1]
    exact ⟨h3, h4⟩
  · obtain ⟨v, h1, h2⟩ := hf.rep i j x hx
    rw [List.getD_eq_getElem?_getD, h1]
    exact h2

def withRow (K : Kept) (b n : Nat) : Kept := fun c j => K c j ∨ (c = b ∧ j < n)

theorem Inv.newRow {G : Ctx} {S : LS} {K : Kept} {w : World} (h : Inv G S K w) {e : TypeId} {z cap : Nat} {es : List (List LV)} {vs : List Value} (hf : Flat G w K z es vs) (hz : z = G.P.cellsOf e) (c : Array Value)
    (hc : c.toList.take (es.length * z) = vs) (hcs : c.size = cap * z) (hcap : es.length ≤ cap) (hm : cap ≤ maxLen) :
    Inv G (S.newRow w.heap.size e es.length) (withRow K w.heap.size (es.length * z)) (w.alloc (.cells c e)) ∧ Ext K w (withRow K w.heap.size (es.length * z)) (w.alloc (.cells c e)) ∧
      Rep G (w.alloc (.cells c e)) (withRow K w.heap.size (es.length * z)) (.sl (.own w.heap.size) es) (.slice (some ⟨w.heap.size, 0, none⟩) es.length cap) := by
  have ha := h.alloc (.cells c e)
  have hxa := Ext.alloc h (.cells c e)
  have hle : es.length * z ≤ c.size := by rw [hcs]; exact Nat.mul_le_mul_right z hcap
  have hnew : (w.alloc (.cells c e)).heap[w.heap.size]? = some (.cells c e (0, 0)) := heap_alloc_new w _
  have hx : Ext K w (withRow K w.heap.size (es.length * z)) (w.alloc (.cells c e)) :=
    ⟨fun b j hk => ⟨.inl hk, (hxa.kept b j hk).2⟩, hxa.shape, hxa.size, hxa.marks⟩
  have hx2 : Ext K (w.alloc (.cells c e)) (withRow K w.heap.size (es.length * z)) (w.alloc (.cells c e)) := ⟨fun b j hk => ⟨.inl hk, rfl⟩, fun _ _ h => h, Nat.le_refl _, fun _ h => h⟩
  refine ⟨⟨ha.below, ha.base, fun b j hk => ?_, fun b cs hb => ?_, fun b T n hb => ?_, fun b o hb => ?_, by simp [LS.newRow], G.stable _ _ _ _ h.since hx⟩, hx, Rep.ofFlat (hf.mono hx) (by simp) hcap (fun q u hq => ?_) fun b' hb' => ?_⟩
  · rcases hk with hk | ⟨rfl, hj⟩
    · exact ha.live b j hk
    · exact ⟨c[j]'(by omega), by rw [cell_of_row _ _ j c e (0, 0) hnew, Array.getElem?_eq_getElem (by omega)]⟩
  · have hb' : S.box b = some cs := hb
    obtain ⟨h1, h2, c', T, h3, h4, h5, h6⟩ := ha.box b cs hb'
    have := h.top
    refine ⟨h1, by simp only [LS.newRow]; omega, c', T, h3, h4, fun j x v hj hv => (h5 j x v hj hv).mono hx2, fun j hk => ?_⟩
    rcases hk with hk | ⟨e1, _⟩
    · exact h6 j hk
    · omega
  · simp only [LS.newRow] at hb ⊢
    rcases beq_cases b w.heap.size (some (e, es.length)) (S.row b) with ⟨rfl, e1⟩ | ⟨hne, e1⟩
    · rw [e1] at hb
      obtain ⟨rfl, rfl⟩ : e = T ∧ es.length = n := by simpa using hb
      refine ⟨h.base, by omega, h.wf'.1 _ h.top, c, hnew, fun j hj hk => ?_⟩
      rw [← hz] at hj
      rcases hk with hk | ⟨_, hk⟩
      · exact notKept_new h j hk
      · omega
    · rw [e1] at hb
      obtain ⟨h1, h2, h3, c', h4, h5⟩ := ha.row b T n hb
      have := h.top
      refine ⟨h1, by omega, h3, c', h4, fun j hj hk => ?_⟩
      rcases hk with hk | ⟨e2, _⟩
      · exact h5 j hj hk
      · exact hne e2
  · have hb' : S.obj b = some o := hb
    obtain ⟨h1, h2, h3⟩ := ha.obj b o hb'
    have := h.top
    exact ⟨h1, by simp only [LS.newRow]; omega, h3⟩
  · have hq' : c[q]? = some u := by
      rw [← hc, List.getElem?_take] at hq
      split at hq
      · simpa using hq
      · cases hq
    have hlt := (List.getElem?_eq_some_iff.1 hq).1
    rw [hf.len] at hlt
    simp only [Nat.zero_add]
    exact ⟨by rw [cell_of_row _ _ q c e (0, 0) hnew]; exact hq', .inr ⟨rfl, hlt⟩⟩
  · obtain rfl : w.heap.size = b' := by simpa using hb'
    exact ⟨rfl, rfl, e, c.size, by unfold World.shape?; rw [hnew], hz, hcs, hm⟩

/-- Who owns a row, and how many elements it has. -/
def Owned (S : LS) (e : TypeId) (n : Nat) : Own → Prop
  | .nil => n = 0
  | .own b => S.row b = some (e, n)
  | .sh => False

def LS.setRow (S : LS) (b : Nat) (T : TypeId) (n : Nat) : LS := { S with row := fun x => bif Nat.beq x b then some (T, n) else S.row x }

theorem Inv.growRow {G : Ctx} {S : LS} {K : Kept} {w : World} (h : Inv G S K w) {e : TypeId} {z b : Nat} {es news : List (List LV)} {vs vs2 : List Value} (hrow : S.row b = some (e, es.length)) (hf : Flat G w K z es vs) (hf2 : Flat G w K z news vs2) (hz : z = G.P.cellsOf e)
    (hvs : ∀ (q : Nat) u, vs[q]? = some u → w.cell? ⟨b, 0 + q, none⟩ = some u ∧ K b (0 + q)) (cur : Array Value) (hcur : w.heap[b]? = some (.cells cur e (0, 0))) {cap : Nat} (hcs : cur.size = cap * z) (hroom : es.length + news.length ≤ cap) (hm : cap ≤ maxLen)
    (c2 : Array Value) (hc2 : c2 = (cur.toList.take (es.length * z) ++ vs2 ++ cur.toList.drop (es.length * z + vs2.length)).toArray) :
    Inv G (S.setRow b e (es.length + news.length)) (withRow K b ((es.length + news.length) * z)) (w.setRow b c2) ∧ Ext K w (withRow K b ((es.length + news.length) * z)) (w.setRow b c2) ∧
      Rep G (w.setRow b c2) (withRow K b ((es.length + news.length) * z)) (.sl (.own b) (es ++ news)) (.slice (some ⟨b, 0, none⟩) (es ++ news).length cap) := by
  obtain ⟨b1, b2, b3, c', b4, b5⟩ := h.row b e _ hrow
  rw [hcur] at b4
  obtain rfl : cur = c' := by simpa using b4
  rw [← hz] at b5
  have hle : (es.length + news.length) * z ≤ cur.size := by rw [hcs]; exact Nat.mul_le_mul_right z hroom
  have hl2 := hf2.len
  rw [Nat.add_mul] at hle
  have hsz : c2.size = cur.size := by rw [hc2]; simp; omega
  have hget : ∀ j : Nat, c2[j]? = if j < es.length * z then cur[j]? else if j < es.length * z + vs2.length then vs2[j - es.length * z]? else cur[j]? := by
    intro j
    rw [hc2, List.getElem?_toArray, List.append_assoc]
    by_cases h1 : j < es.length * z
    · rw [if_pos h1, List.getElem?_append_left (by simp; omega), List.getElem?_take, if_pos h1]; simp
    · rw [if_neg h1, List.getElem?_append_right (by simp; omega)]
      rw [List.length_take, Nat.min_eq_left (by simp; omega)]
      by_cases h2 : j < es.length * z + vs2.length
      · rw [if_pos h2, List.getElem?_append_left (by omega)]
      · rw [if_neg h2, List.getElem?_append_right (by omega), List.getElem?_drop]
        simp only [Array.getElem?_toList]
        congr 1; omega
  have hother : ∀ k, k ≠ b → (w.setRow b c2).heap[k]? = w.heap[k]? := fun k hk => setRow_other w b k c2 hk
  have hsame : (w.setRow b c2).heap[b]? = some (.cells c2 e (0, 0)) := setRow_heap w b cur c2 e (0, 0) hcur
  have hcell : ∀ j, (w.setRow b c2).cell? ⟨b, j, none⟩ = c2[j]? := fun j => cell_of_row _ b j c2 e (0, 0) hsame
  have hcell0 : ∀ j, w.cell? ⟨b, j, none⟩ = cur[j]? := fun j => cell_of_row _ b j cur e (0, 0) hcur
  have hx : Ext K w (withRow K b ((es.length + news.length) * z)) (w.setRow b c2) := by
    refine ⟨fun k j hk => ⟨.inl hk, ?_⟩, fun k s hs => ?_, by simp, fun k hk => ?_⟩
    · by_cases e1 : k = b
      · subst e1
        have : j < es.length * z := by
          rcases Nat.lt_or_ge j (es.length * z) with h' | h'
          · exact h'
          · exact absurd hk (b5 j h')
        rw [hcell, hcell0, hget, if_pos this]
      · exact World.cell?_of_block (a := ⟨k, j, none⟩) (hother k e1)
    · by_cases e1 : k = b
      · subst e1
        simp only [World.shape?, hcur, hsame, hsz] at hs ⊢
        exact hs
      · simp only [World.shape?, hother k e1] at hs ⊢
        exact hs
    · have : k ≠ b := fun e1 => by subst e1; rw [hcur] at hk; cases hk
      rw [hother k this]; exact hk
  refine ⟨⟨?_, ?_, fun k j hk => ?_, fun k cs' hk => ?_, fun k T' n hk => ?_, fun k o hk => ?_, ?_, G.stable _ _ _ _ h.since hx⟩, hx, ?_⟩
  · exact h.below.trans ⟨rfl, rfl, rfl, by simp, fun k hk => hother k (by omega)⟩
  · simpa using h.base
  · rcases hk with hk | ⟨rfl, hj⟩
    · obtain ⟨v, hv⟩ := h.live k j hk
      exact ⟨v, by rw [(hx.kept k j hk).2]; exact hv⟩
    · rw [hcell]
      rw [Nat.add_mul] at hj
      exact ⟨c2[j]'(by omega), Array.getElem?_eq_getElem (by omega)⟩
  · have hk' : S.box k = some cs' := hk
    obtain ⟨h1, h2, c3, T3, h3, h4, h5, h6⟩ := h.box k cs' hk'
    have hne : k ≠ b := fun e1 => by subst e1; rw [b3] at hk'; cases hk'
    refine ⟨h1, h2, c3, T3, by rw [hother k hne]; exact h3, h4, fun j x v hj hv => (h5 j x v hj hv).mono hx, fun j hkj => ?_⟩
    rcases hkj with hkj | ⟨e1, _⟩
    · exact h6 j hkj
    · exact hne e1
  · simp only [LS.setRow] at hk ⊢
    rcases beq_cases k b (some (e, es.length + news.length)) (S.row k) with ⟨rfl, e1⟩ | ⟨hne, e1⟩
    · rw [e1] at hk
      obtain ⟨rfl, rfl⟩ : e = T' ∧ es.length + news.length = n := by simpa using hk
      refine ⟨b1, b2, b3, c2, hsame, fun j hj hkj => ?_⟩
      rw [← hz] at hj
      rcases hkj with hkj | ⟨_, hkj⟩
      · exact b5 j (by rw [Nat.add_mul] at hj; omega) hkj
      · omega
    · rw [e1] at hk
      obtain ⟨h1, h2, h3, c3, h4, h5⟩ := h.row k T' n hk
      refine ⟨h1, h2, h3, c3, by rw [hother k hne]; exact h4, fun j hj hkj => ?_⟩
      rcases hkj with hkj | ⟨e2, _⟩
      · exact h5 j hj hkj
      · exact hne e2
  · have hk' : S.obj k = some o := hk
    obtain ⟨h1, h2, h3, h4, h5⟩ := h.obj k o hk'
    have : k ≠ b := fun e1 => by
      subst e1
      rw [hcur] at h3
      obtain rfl : Obj.cells cur e (0, 0) = o := by simpa using h3
      simp [Obj.isCells] at h4
    exact ⟨h1, h2, by rw [hother k this]; exact h3, h4, h5⟩
  · have := h.top
    simpa [LS.setRow] using this
  · refine Rep.ofFlat ((hf.append hf2).mono hx) (by simp) (by rw [List.length_append]; exact hroom) (fun q u hq => ?_) fun b' hb' => ?_
    · have hlt := (List.getElem?_eq_some_iff.1 hq).1
      rw [List.length_append, hf.len] at hlt
      rw [Nat.zero_add, hcell, hget]
      refine ⟨?_, .inr ⟨rfl, by rw [Nat.add_mul]; omega⟩⟩
      by_cases h1 : q < es.length * z
      · rw [if_pos h1]
        rw [List.getElem?_append_left (by rw [hf.len]; exact h1)] at hq
        have := (hvs q u hq).1
        rw [Nat.zero_add, hcell0] at this
        exact this
      · rw [if_neg h1, if_pos (by omega)]
        rw [List.getElem?_append_right (by rw [hf.len]; omega), hf.len] at hq
        exact hq
    · obtain rfl : b = b' := by simpa using hb'
      exact ⟨rfl, rfl, e, c2.size, by unfold World.shape?; rw [hsame], hz, by rw [hsz, hcs], hm⟩

/-- What an append leaves of the logical memory. -/
structure LS.upto (o : Own) (S S' : LS) : Prop where
  box : ∀ b cs, S.box b = some cs → S'.box b = some cs
  row : ∀ b x, o ≠ .own b → S.row b = some x → S'.row b = some x
  obj : ∀ b x, S.obj b = some x → S'.obj b = some x
  top : S.top ≤ S'.top

theorem LS.fresh_newRow {S : LS} {b : Nat} (h : S.fresh b) (e : TypeId) (n : Nat) (o : Own) : S.upto o (S.newRow b e n) := by
  refine ⟨fun _ _ h => h, fun c x _ hx => ?_, fun _ _ h => h, by have := h.top; simp only [LS.newRow]; omega⟩
  rw [row_new_ne S e n (fun e1 => by subst e1; rw [h.row] at hx; cases hx)]
  exact hx


theorem Rep.ownRow {G : Ctx} {w : World} {K : Kept} {b : Nat} {es : List (List LV)} {v : Value} {z : Nat} {e : TypeId} {cur : Array Value} (h : Rep G w K (.sl (.own b) es) v) (hz0 : 0 < z) (hz : z = G.P.cellsOf e) (hcur : w.heap[b]? = some (.cells cur e (0, 0))) :
    ∃ cap vs, v = .slice (some ⟨b, 0, none⟩) es.length cap ∧ es.length ≤ cap ∧ Flat G w K z es vs ∧ (∀ (q : Nat) u, vs[q]? = some u → w.cell? ⟨b, 0 + q, none⟩ = some u ∧ K b (0 + q)) ∧ cur.size = cap * z ∧ cap ≤ maxLen := by
  have h0 := h
  cases h with
  | row _ _ b' off cap z' c hn hcap hz' ho hc hr =>
    obtain ⟨rfl, rfl, T, n, h1, h2, h3, h4⟩ := ho b rfl
    unfold World.shape? at h1
    rw [hcur] at h1
    obtain ⟨rfl, rfl⟩ : e = T ∧ cur.size = n := by simpa using h1
    obtain rfl : z = z' := by rw [hz, h2]
    by_cases hne : es = []
    · subst hne
      exact ⟨cap, [], rfl, hcap, ⟨by simp, by simp, by simp [cellOf]⟩, by simp, h3, h4⟩
    · obtain ⟨b2, off2, cap2, vs, e1, e2, e3, e4, e5⟩ := h0.flat hz0 hz' hne
      obtain ⟨⟨rfl, rfl⟩, rfl⟩ : (b = b2 ∧ 0 = off2) ∧ cap = cap2 := by simpa using e1
      exact ⟨cap, vs, rfl, hcap, e3, e4, h3, h4⟩

theorem run_append_nothing {P : Program} {w : World} {t ty e : TypeId} {j : TI} (ht : P.underlying t = some (.slice e)) (hj : TIok P e j) (base : Option Addr) (n cap : Nat) (h : n ≤ cap) (a : Option Addr) (c : Nat) :
    (Builtin.append_ #[t, t] ty #[.slice base n cap, .slice a 0 c]).run P w = .ok (.slice base n cap) w := by
  have hf : (Builtin.firstCells j.size 0 (.slice a 0 c)).run P w = .ok #[] w := by
    cases a <;> simp [Builtin.firstCells, loadCells, loadCellsFrom]
  cases base with
  | none => simp [Builtin.append_, run_underlying ht, run_sizeOf' hj, Builtin.lenOf, h, hf]
  | some b => simp [Builtin.append_, run_underlying ht, run_sizeOf' hj, Builtin.lenOf, h, hf, storeCells]

theorem addCells {w : World} {b off : Nat} {vs : List Value} {K : Kept} (h : ∀ (q : Nat) u, vs[q]? = some u → w.cell? ⟨b, off + q, none⟩ = some u ∧ K b (off + q)) : ∀ (q : Nat) u, vs[q]? = some u → w.cell? ((⟨b, off, none⟩ : Addr).add q) = some u :=
  fun q u hq => by rw [add_off]; exact (h q u hq).1

/-- append onto a slice that is nil or the call's own. -/
theorem LDo.append {G : Ctx} {D : Tab} (hD : TabOK G.P D) {o : Oper} {T : Nat → TV} {S : LS} {t e : TypeId} {s x : Operand} {o1 o2 : Own} {es news : List (List LV)} {i j : TI}
    (ho : o.op = .call { callee := .builtin .append, args := #[s, x], argTypes := #[t, t] }) (hs : lev T s = .one (.sl o1 es)) (hx : lev T x = .one (.sl o2 news)) (hi : D.get t = some i) (hd : i.desc = .slice e) (hj : D.get e = some j)
    (hsz : Nat.blt 0 j.size = true) (hzs : j.zero.cells.size = j.size) (hown : Owned S e es.length o1) (hnz : ∀ c ∈ news, c.length = j.size) (hl : es.length + news.length ≤ maxLen) (hbytes : (es.length + news.length) * j.bytes ≤ 140737488355328) :
    LDo G o T S (fun r S' => ∃ o', r = .one (.sl o' (es ++ news)) ∧ Owned S' e (es.length + news.length) o' ∧ S.upto o1 S' ∧ ∀ b, o' = .own b → o1 = .own b ∨ S.fresh b) :=
  .of_run fun K w ac hi' hr => by
    have h1 := hr s (by rw [ho]; simp [Op.operands, Call.operands])
    have h2 := hr x (by rw [ho]; simp [Op.operands, Call.operands])
    rw [hs] at h1
    rw [hx] at h2
    have e1 := (hD.get hi).und
    rw [hd] at e1
    have tj := hD.get hj
    have hsz' : 0 < j.size := by simpa [Nat.blt_eq] using hsz
    obtain ⟨ji, q1, q2, q3, q4⟩ := tj.info
    have hze : j.size = G.P.cellsOf e := (cellsOf' tj).symm
    have r1 := h1.of_one
    have r2 := h2.of_one
    have hex : ∀ v w', (Builtin.append_ #[t, t] o.type #[ac.eval s, ac.eval x]).run G.P w = .ok v w' → (execOp ac.eval o).run G.P w = .ok (.value v) w' := fun v w' h => by
      simp [execOp, ho, resolve, invoke, builtin, h]
    have hsmall : es.length + news.length ≤ 9223372036854775807 := by simp only [maxLen] at hl; omega
    by_cases hne : news = []
    · subst hne
      have hxv : ∃ a c, ac.eval x = .slice a 0 c := by
        generalize ac.eval x = v at r2
        cases r2 with
        | nil => exact ⟨none, 0, rfl⟩
        | emp a cap => exact ⟨a, cap, rfl⟩
        | row _ _ b off cap z c => exact ⟨_, _, rfl⟩
      have hsv : ∃ base n cap, ac.eval s = .slice base n cap ∧ n ≤ cap := by
        generalize ac.eval s = v at r1
        cases r1 with
        | nil => exact ⟨none, 0, 0, rfl, Nat.le_refl _⟩
        | emp a cap => exact ⟨a, 0, cap, rfl, Nat.zero_le _⟩
        | row _ _ b off cap z c _ hcap => exact ⟨_, _, _, rfl, hcap⟩
      obtain ⟨a, c, hxv⟩ := hxv
      obtain ⟨base, n, cap, hsv, hle⟩ := hsv
      have := run_append_nothing (w := w) (ty := o.type) e1 tj base n cap hle a c
      rw [← hxv, ← hsv] at this
      exact ⟨.one (.sl o1 es), _, S, K, w, hex _ _ this, .one r1, hi', .refl _ _, o1, by rw [List.append_nil], by simpa using hown, ⟨fun _ _ h => h, fun _ _ _ h => h, fun _ _ h => h, Nat.le_refl _⟩, fun b hb => .inl hb⟩
    · obtain ⟨b2, off2, cap2, vs2, f1, f2, f3, f4, f5⟩ := r2.flat hsz' hnz hne
      have hpos : 0 < news.length := List.length_pos_iff.2 hne
      have hnl : vs2.length = news.length * ji.size := by rw [q2]; exact f3.len
      have hzl : ∀ n, (Builtin.zeroCells j.zero.cells n).size = n * j.size := fun n => by rw [size_zeroCells, hzs]
      cases o1 with
      | sh => exact hown.elim
      | nil =>
        have hes : es = [] := List.length_eq_zero_iff.1 hown
        subst hes
        have hsv : ac.eval s = .slice none 0 0 := by
          generalize ac.eval s = v at r1
          cases r1 with
          | nil => rfl
          | row _ _ _ _ _ _ _ hn => exact absurd rfl hn
        simp only [List.length_nil, Nat.zero_add] at hsmall hbytes hl
        have hrun := run_append_nil (P := G.P) w t o.type e ji j.zero e1 q1 q4 ⟨b2, off2, none⟩ news.length cap2 vs2 hnl (addCells f4) hpos (by omega) (by rw [q3]; omega)
        rw [← hsv, ← f1] at hrun
        have hge := grownCap_ge w news.length 0 e
        have hcm := grownCap_le_maxLen w news.length 0 e hl
        obtain ⟨g1, g2, g3⟩ := hi'.drew.newRow (e := e) (z := j.size) (cap := grownCap w news.length 0 e) (f3.mono (.drew K w)) hze (vs2.toArray ++ Builtin.zeroCells j.zero.cells (grownCap w news.length 0 e - news.length)) (by
            rw [Array.toList_append, ← f3.len]; exact List.take_left) (by
            rw [Array.size_append, hzl, List.size_toArray, f3.len, ← Nat.add_mul]; congr 1; omega) hge hcm
        refine ⟨_, _, _, _, _, hex _ _ hrun, .one g3, g1, (Ext.drew K w).trans g2, .own w.heap.size, rfl, ?_, LS.fresh_newRow hi'.fresh e _ _, fun b hb => .inr ?_⟩
        · simp only [Owned, List.length_nil, Nat.zero_add]; exact row_new S _ e _
        · obtain rfl : w.heap.size = b := by simpa using hb
          exact hi'.fresh
      | own b =>
        obtain ⟨p1, p2, p3, cur, p4, p5⟩ := hi'.row b e _ hown
        obtain ⟨cap, vs, g1, g2, g3, g4, g5, g6⟩ := r1.ownRow hsz' hze p4
        by_cases hroom : es.length + news.length ≤ cap
        · have hfit : es.length * ji.size + vs2.length ≤ cur.size := by rw [hnl, q2, g5, ← Nat.add_mul]; exact Nat.mul_le_mul_right _ hroom
          have hrun := run_append_room (P := G.P) w t o.type e ji e1 q1 b es.length cap cur p4 ⟨b2, off2, none⟩ news.length cap2 vs2 hnl (addCells f4) f3.oneCell hroom hfit
          rw [← g1, ← f1, q2] at hrun
          obtain ⟨k1, k2, k3⟩ := hi'.growRow hown g3 f3 hze g4 cur p4 g5 hroom g6 _ rfl
          rw [List.length_append] at k3
          exact ⟨_, _, _, _, _, hex _ _ hrun, .one k3, k1, k2, .own b, rfl, by simp only [Owned, LS.setRow]; simp, ⟨fun _ _ h => h, fun c x hc hx => by
            simp only [LS.setRow]
            rcases beq_cases c b (some (e, es.length + news.length)) (S.row c) with ⟨rfl, _⟩ | ⟨_, e2⟩
            · exact absurd rfl hc
            · rw [e2]; exact hx, fun _ _ h => h, Nat.le_refl _⟩, fun b' hb' => .inl hb'⟩
        · have hrun := run_append_grow (P := G.P) w t o.type e ji j.zero e1 q1 q4 ⟨b, 0, none⟩ es.length cap vs (by rw [q2]; exact g3.len) (addCells g4) ⟨b2, off2, none⟩ news.length cap2 vs2 hnl (addCells f4) (by omega) (by omega) (by
            rw [q3]; exact growslice_fits (by omega) hbytes)
          rw [← g1, ← f1] at hrun
          have hge := grownCap_ge w (es.length + news.length) cap e
          have hcm := grownCap_le_maxLen w (es.length + news.length) cap e hl
          have hlen : (es ++ news).length = es.length + news.length := List.length_append
          obtain ⟨k1, k2, k3⟩ := hi'.drew.newRow (e := e) (z := j.size) (cap := grownCap w (es.length + news.length) cap e) ((g3.append f3).mono (.drew K w)) hze (vs.toArray ++ vs2.toArray ++ Builtin.zeroCells j.zero.cells (grownCap w (es.length + news.length) cap e - (es.length + news.length))) (by
              rw [Array.toList_append, Array.toList_append, ← (g3.append f3).len]; exact List.take_left) (by
              rw [Array.size_append, Array.size_append, hzl, List.size_toArray, List.size_toArray, f3.len, g3.len, ← Nat.add_mul, ← Nat.add_mul]; congr 1; omega) (by rw [hlen]; exact hge) hcm
          rw [hlen] at k1 k2 k3
          refine ⟨_, _, _, _, _, hex _ _ hrun, .one k3, k1, (Ext.drew K w).trans k2, .own w.heap.size, rfl, ?_, LS.fresh_newRow hi'.fresh e _ _, fun b hb => .inr ?_⟩
          · simp only [Owned]; exact row_new S _ e _
          · obtain rfl : w.heap.size = b := by simpa using hb
            exact hi'.fresh

end Go.Proofs.Ytgkjhlmfgaaddaa.LF
end

section
/- The frame's literals of structs, arrays and slices; slices of slices and of strings. -/
namespace Go.Proofs.Ytgkjhlmfgaaddaa.LF
open Go.RowKit

/-- A literal's parts put into its zero. -/
def lfill (place : Nat → Option (Nat × Nat)) (cs : List LV) : List (Nat × List LV) → Option (List LV)
  | [] => some cs
  | (i, l) :: rest => match place i with
    | none => none
    | some (off, size) => bif Nat.beq l.length size && Nat.ble (off + l.length) cs.length then lfill place (splice cs off l) rest else none

theorem setRange (off : Nat) : ∀ (vs : List Value) (k0 : Nat) (cells : Array Value), off + k0 + vs.length ≤ cells.size →
    (((vs.zipIdx k0).foldl (fun cs (x : Value × Nat) => cs.setIfInBounds (off + x.2) x.1) cells).size = cells.size ∧ ∀ k : Nat, ((vs.zipIdx k0).foldl (fun cs (x : Value × Nat) => cs.setIfInBounds (off + x.2) x.1) cells)[k]? = if k < off + k0 then cells[k]? else if k < off + k0 + vs.length then vs[k - (off + k0)]? else cells[k]?) := by
  intro vs
  induction vs with
  | nil =>
    intro k0 cells _
    refine ⟨rfl, fun k => ?_⟩
    simp only [List.zipIdx_nil, List.foldl_nil, List.length_nil, Nat.add_zero]
    split <;> simp_all
  | cons v vs ih =>
    intro k0 cells h
    simp only [List.length_cons] at h
    simp only [List.zipIdx_cons, List.foldl_cons, List.length_cons]
    obtain ⟨h1, h2⟩ := ih (k0 + 1) (cells.setIfInBounds (off + k0) v) (by simp; omega)
    refine ⟨by rw [h1]; simp, fun k => ?_⟩
    rw [h2 k]
    by_cases c1 : k < off + k0
    · rw [if_pos (by omega), if_pos c1, Array.getElem?_setIfInBounds_ne (by omega)]
    · rw [if_neg c1]
      by_cases c2 : k = off + k0
      · subst c2
        rw [if_pos (by omega), if_pos (by omega), Nat.sub_self]
        simp only [List.getElem?_cons_zero]
        rw [Array.getElem?_setIfInBounds_self_of_lt (by omega)]
      · rw [if_neg (by omega)]
        by_cases c3 : k < off + (k0 + 1) + vs.length
        · rw [if_pos c3, if_pos (by omega)]
          rw [show k - (off + k0) = (k - (off + (k0 + 1))) + 1 by omega, List.getElem?_cons_succ]
        · rw [if_neg c3, if_neg (by omega), Array.getElem?_setIfInBounds_ne (by omega)]

theorem fill_rep {G : Ctx} {w : World} {K : Kept} {place : Nat → Option (Nat × Nat)} : ∀ (lp : List (Nat × List LV)) (rp : List (Nat × Value)) (cs cs' : List LV) (cells : Array Value), cells.size = cs.length →
    (∀ (j : Nat) x v, cs[j]? = some x → cells[j]? = some v → Rep G w K x v) → rp.length = lp.length →
    (∀ (k : Nat) i l i' v, lp[k]? = some (i, l) → rp[k]? = some (i', v) → i' = i ∧ v.cells.size = l.length ∧ ∀ (j : Nat) x u, l[j]? = some x → v.cells[j]? = some u → Rep G w K x u) →
    lfill place cs lp = some cs' → ∃ cells', Instr.fill place cells rp = some cells' ∧ cells'.size = cs'.length ∧ ∀ (j : Nat) x v, cs'[j]? = some x → cells'[j]? = some v → Rep G w K x v := by
  intro lp
  induction lp with
  | nil =>
    intro rp cs cs' cells hs hr hl _ hf
    obtain rfl : rp = [] := List.length_eq_zero_iff.1 hl
    obtain rfl : cs = cs' := by simpa [lfill] using hf
    exact ⟨cells, rfl, hs, hr⟩
  | cons p lp ih =>
    intro rp cs cs' cells hs hr hl hp hf
    obtain ⟨i, l⟩ := p
    cases rp with
    | nil => simp at hl
    | cons q rp =>
      obtain ⟨i', v⟩ := q
      obtain ⟨rfl, e1, e2⟩ := hp 0 i l i' v rfl rfl
      simp only [lfill] at hf
      simp only [Instr.fill]
      cases hpl : place i' with
      | none => rw [hpl] at hf; cases hf
      | some os =>
        obtain ⟨off, size⟩ := os
        rw [hpl] at hf
        simp only at hf ⊢
        cases hb : (Nat.beq l.length size && Nat.ble (off + l.length) cs.length) with
        | false => rw [hb] at hf; cases hf
        | true =>
          rw [hb] at hf
          simp only [cond_true] at hf
          rw [Bool.and_eq_true] at hb
          have b1 : l.length = size := Nat.eq_of_beq_eq_true hb.1
          have b2 : off + l.length ≤ cs.length := Nat.le_of_ble_eq_true hb.2
          rw [if_neg (by simp; omega)]
          have hfold : (v.cells.zipIdx.foldl (fun cs (x : Value × Nat) => cs.setIfInBounds (off + x.2) x.1) cells) = ((v.cells.toList.zipIdx 0).foldl (fun cs (x : Value × Nat) => cs.setIfInBounds (off + x.2) x.1) cells) := by
            rw [← Array.foldl_toList, Array.toList_zipIdx]
          obtain ⟨s1, s2⟩ := setRange off v.cells.toList 0 cells (by simp; omega)
          rw [← hfold] at s1 s2
          refine ih rp (splice cs off l) cs' _ (by rw [s1, splice_length b2]; exact hs) (fun j x u hj hu => ?_) (by simpa using hl) (fun k i2 l2 i3 v2 h1 h2 => hp (k + 1) i2 l2 i3 v2 h1 h2) hf
          rw [s2] at hu
          rw [splice_get b2] at hj
          simp only [Nat.add_zero, Array.length_toList] at hu
          by_cases c1 : j < off
          · rw [if_pos c1] at hu hj; exact hr j x u hj hu
          · rw [if_neg c1] at hu hj
            by_cases c2 : j < off + l.length
            · rw [if_pos (by omega)] at hu
              rw [if_pos c2] at hj
              exact e2 (j - off) x u hj (by simpa using hu)
            · rw [if_neg (by omega)] at hu
              rw [if_neg c2] at hj
              exact hr j x u hj hu

def lzero (i : TI) : List LV := i.zero.cells.toList.map constLV

theorem lzero_rep (G : Ctx) (w : World) (K : Kept) {i : TI} (hz : i.zero.cells.toList.all Value.oneCell' = true) : ∀ (j : Nat) x v, (lzero i)[j]? = some x → i.zero.cells[j]? = some v → Rep G w K x v := by
  intro j x v hj hv
  unfold lzero at hj
  rw [List.getElem?_map] at hj
  have : i.zero.cells.toList[j]? = some v := by simpa using hv
  rw [this] at hj
  simp only [Option.map_some, Option.some.injEq] at hj
  subst hj
  exact constLV_rep G w K v (List.all_eq_true.1 hz v (List.mem_of_getElem? this))

/-- The parts of a literal, as the slots hold them. -/
def lparts (T : Nat → TV) : List (Nat × Operand) → Option (List (Nat × List LV))
  | [] => some []
  | (i, x) :: rest => match tcells (lev T x), lparts T rest with
    | some l, some r => some ((i, l) :: r)
    | _, _ => none

theorem lparts_rep {G : Ctx} {w : World} {K : Kept} {T : Nat → TV} {a : Act} : ∀ (ps : List (Nat × Operand)) (lp : List (Nat × List LV)), (∀ p ∈ ps, RepT G w K (lev T p.2) (a.eval p.2)) → lparts T ps = some lp →
    (ps.map fun p => (p.1, a.eval p.2)).length = lp.length ∧ ∀ (k : Nat) i l i' v, lp[k]? = some (i, l) → (ps.map fun p => (p.1, a.eval p.2))[k]? = some (i', v) → i' = i ∧ v.cells.size = l.length ∧ ∀ (j : Nat) x u, l[j]? = some x → v.cells[j]? = some u → Rep G w K x u := by
  intro ps
  induction ps with
  | nil =>
    intro lp _ h
    obtain rfl : [] = lp := by simpa [lparts] using h
    exact ⟨rfl, by simp⟩
  | cons p ps ih =>
    intro lp hr h
    obtain ⟨i, x⟩ := p
    simp only [lparts] at h
    cases h1 : tcells (lev T x) with
    | none => rw [h1] at h; cases h
    | some l =>
      cases h2 : lparts T ps with
      | none => rw [h1, h2] at h; cases h
      | some r =>
        rw [h1, h2] at h
        obtain rfl : (i, l) :: r = lp := by simpa using h
        obtain ⟨i1, i2⟩ := ih r (fun p hp => hr p (List.mem_cons_of_mem _ hp)) h2
        refine ⟨by simpa using i1, fun k i' l' i'' v hk hv => ?_⟩
        cases k with
        | zero =>
          obtain ⟨rfl, rfl⟩ : i = i' ∧ l = l' := by simpa using hk
          obtain ⟨rfl, rfl⟩ : i = i'' ∧ a.eval x = v := by simpa using hv
          obtain ⟨c1, c2⟩ := (hr (i, x) (by simp)).cells h1
          exact ⟨rfl, c1, c2⟩
        | succ k => exact i2 k i' l' i'' v (by simpa using hk) (by simpa using hv)

/-- Where a struct's fields lie. -/
def fieldPlace? (D : Tab) (fs : List Field) (k : Nat) : Option (Nat × Nat) := match fs[k]? with
  | none => none
  | some f => match D.get f.type with
    | none => none
    | some j => some (f.offset, j.size)

theorem run_places {P : Program} {D : Tab} (hD : TabOK P D) {w : World} (fs : Array Field) (h : fs.toList.all (fun f => (D.get f.type).isSome) = true) :
    (fs.mapM fun f => do pure (f.offset, ← sizeOf f.type) : Sem (Array (Nat × Nat))).run P w = .ok (fs.map fun f => (f.offset, P.cellsOf f.type)) w := by
  have key : ∀ (l : List Field), l.all (fun f => (D.get f.type).isSome) = true → (l.mapM fun f => do pure (f.offset, ← sizeOf f.type) : Sem (List (Nat × Nat))).run P w = .ok (l.map fun f => (f.offset, P.cellsOf f.type)) w := by
    intro l
    induction l with
    | nil => intro _; simp
    | cons f l ih =>
      intro hl
      simp only [List.all_cons, Bool.and_eq_true] at hl
      obtain ⟨j, hj⟩ := Option.isSome_iff_exists.1 hl.1
      have ih := ih hl.2
      simp only [List.mapM_cons, Sem.run_bind, run_sizeOf' (hD.get hj), Result.andThen_ok, Sem.run_pure, ih, List.map_cons, cellsOf' (hD.get hj)]
  rw [Array.mapM_eq_mapM_toList, Sem.run_map, key fs.toList h]
  simp only [Result.andThen_ok]
  congr 1
  apply Array.ext'
  simp

theorem LVal.build {G : Ctx} {D : Tab} (hD : TabOK G.P D) {o : Oper} {T : Nat → TV} {S : LS} {t : TypeId} {ps : List (Nat × Operand)} {lp : List (Nat × List LV)} {l : List LV} {i : TI} {fs : Array Field} (ho : o.op = .build t ps.toArray)
    (hp : lparts T ps = some lp) (hi : D.get t = some i) (hd : i.desc = .struct fs) (hz : i.zero.cells.toList.all Value.oneCell' = true) (hfs : fs.toList.all (fun f => (D.get f.type).isSome) = true)
    (h : lfill (fieldPlace? D fs.toList) (lzero i) lp = some l) : LVal G o T S (.agg l) :=
  .of_run fun K w ac hi' hr => by
    have e1 := (hD.get hi).und
    rw [hd] at e1
    obtain ⟨p1, p2⟩ := lparts_rep (G := G) (w := w) (K := K) (T := T) (a := ac) ps lp (fun p hp => hr p.2 (by rw [ho]; simp only [Op.operands]; simp only [List.mem_toArray, List.mem_map]; exact ⟨p, by simpa using hp, rfl⟩)) hp
    have hpl : (fun k => (fs.map fun f => (f.offset, G.P.cellsOf f.type))[k]?) = fieldPlace? D fs.toList := by
      funext k
      unfold fieldPlace?
      rw [Array.getElem?_map, ← Array.getElem?_toList]
      cases hk : fs.toList[k]? with
      | none => rfl
      | some f =>
        have hm := List.mem_of_getElem? hk
        obtain ⟨j, hj⟩ := Option.isSome_iff_exists.1 (List.all_eq_true.1 hfs f hm)
        simp [hj, cellsOf' (hD.get hj)]
    obtain ⟨cells', f1, f2, f3⟩ := fill_rep lp (ps.map fun p => (p.1, ac.eval p.2)) (lzero i) l i.zero.cells (by simp [lzero]) (lzero_rep G w K hz) p1 p2 h
    refine ⟨.agg cells', ?_, .agg _ _ f2 f3⟩
    rw [← hpl] at f1
    simp only [execOp, ho, Instr.build, Sem.run_bind, run_zero' (hD.get hi), Result.andThen_ok, run_underlying e1, run_places hD fs hfs, List.map_toArray]
    have hmap : (List.map (fun x : Nat × Operand => match x with | (i, x) => (i, ac.eval x)) ps) = ps.map fun p => (p.1, ac.eval p.2) := rfl
    rw [hmap, f1]
    simp

/-- Elements of one size. -/
def chunks (z : Nat) (l : List LV) : Nat → List (List LV)
  | 0 => []
  | n + 1 => l.take z :: chunks z (l.drop z) n

theorem chunks_length (z : Nat) : ∀ (n : Nat) (l : List LV), (chunks z l n).length = n := by
  intro n
  induction n with
  | zero => intro l; rfl
  | succ n ih => intro l; simp [chunks, ih]

theorem chunks_get (z : Nat) : ∀ (n : Nat) (l : List LV) (i : Nat), i < n → (chunks z l n)[i]? = some ((l.drop (i * z)).take z) := by
  intro n
  induction n with
  | zero => intro l i h; omega
  | succ n ih =>
    intro l i h
    cases i with
    | zero => simp [chunks]
    | succ i =>
      simp only [chunks, List.getElem?_cons_succ]
      rw [ih _ i (by omega), List.drop_drop]
      congr 3
      rw [Nat.add_mul]; omega

theorem Flat.ofCells {G : Ctx} {w : World} {K : Kept} {z n : Nat} {l : List LV} {vs : List Value} (hl : l.length = n * z) (hs : vs.length = l.length) (hr : ∀ (j : Nat) x v, l[j]? = some x → vs[j]? = some v → Rep G w K x v) : Flat G w K z (chunks z l n) vs := by
  refine ⟨by rw [chunks_length, hs, hl], fun e he => ?_, fun i j x hx => ?_⟩
  · obtain ⟨i, hi⟩ := List.getElem?_of_mem he
    have hlt := (List.getElem?_eq_some_iff.1 hi).1
    rw [chunks_length] at hlt
    rw [chunks_get z n l i hlt] at hi
    obtain rfl : List.take z (List.drop (i * z) l) = e := by simpa using hi
    have := Nat.mul_le_mul_right z (Nat.succ_le_of_lt hlt)
    rw [Nat.succ_mul] at this
    simp; omega
  · unfold cellOf at hx
    cases he : (chunks z l n)[i]? with
    | none => rw [he] at hx; cases hx
    | some e =>
      rw [he] at hx
      have hlt := (List.getElem?_eq_some_iff.1 he).1
      rw [chunks_length] at hlt
      rw [chunks_get z n l i hlt] at he
      obtain rfl : List.take z (List.drop (i * z) l) = e := by simpa using he
      simp only [Option.bind_some] at hx
      rw [List.getElem?_take] at hx
      split at hx
      · rw [List.getElem?_drop] at hx
        have hq := (List.getElem?_eq_some_iff.1 hx).1
        exact ⟨vs[i * z + j]'(by omega), List.getElem?_eq_getElem (by omega), hr _ _ _ hx (List.getElem?_eq_getElem (by omega))⟩
      · cases hx

/-- A slice literal's cells. -/
def sliceZero (j : TI) (n : Nat) : List LV := (List.range (n * j.size)).map fun q => (lzero j).getD (q % j.size) (.v (.bool false))

theorem run_buildSlice {G : Ctx} {D : Tab} (hD : TabOK G.P D) {o : Oper} {T : Nat → TV} {t e : TypeId} {n : Nat} {ps : List (Nat × Operand)} {lp : List (Nat × List LV)} {l : List LV} {i j : TI} (ho : o.op = .buildSlice t n ps.toArray)
    (hp : lparts T ps = some lp) (hi : D.get t = some i) (hd : i.desc = .slice e) (hj : D.get e = some j) (hsz : Nat.blt 0 j.size = true) (hzs : j.zero.cells.size = j.size) (hz : j.zero.cells.toList.all Value.oneCell' = true) (hbig : Nat.ble (n * j.size) 16777216 = true)
    (h : lfill (fun k => some (k * j.size, j.size)) (sliceZero j n) lp = some l) {K : Kept} {w : World} {ac : Act} (hr : ∀ x ∈ o.op.operands, RepT G w K (lev T x) (ac.eval x)) :
    ∃ c : Array Value, (execOp ac.eval o).run G.P w = .ok (.value (.slice (some ⟨w.heap.size, 0, none⟩) n n)) (w.alloc (.cells c e)) ∧ c.size = n * j.size ∧ Flat G w K j.size (chunks j.size l n) c.toList := by
  have e1 := (hD.get hi).und
  rw [hd] at e1
  have hsz' : 0 < j.size := by simpa [Nat.blt_eq] using hsz
  have hbig' : ¬ (n * j.size > 16777216) := by have := Nat.le_of_ble_eq_true hbig; omega
  obtain ⟨p1, p2⟩ := lparts_rep (G := G) (w := w) (K := K) (T := T) (a := ac) ps lp (fun p hp => hr p.2 (by rw [ho]; simp only [Op.operands]; simp only [List.mem_toArray, List.mem_map]; exact ⟨p, by simpa using hp, rfl⟩)) hp
  obtain ⟨zc, hzc⟩ : ∃ zc : Array Value, zc = (Array.range (n * j.size)).map (j.zero.cells[· % j.zero.cells.size]!) := ⟨_, rfl⟩
  obtain ⟨cells', f1, f2, f3⟩ := fill_rep (G := G) (w := w) (K := K) (place := fun k => some (k * j.size, j.size)) lp (ps.map fun p => (p.1, ac.eval p.2)) (sliceZero j n) l zc (by rw [hzc]; simp [sliceZero]) (fun q x v hq hv => by
      have hlt := (List.getElem?_eq_some_iff.1 hq).1
      simp only [sliceZero, List.length_map, List.length_range] at hlt
      have hm : q % j.size < j.zero.cells.size := by rw [hzs]; exact Nat.mod_lt _ hsz'
      rw [hzc, Array.getElem?_map, Array.getElem?_range, if_pos hlt] at hv
      simp only [Option.map_some, Option.some.injEq] at hv
      rw [hzs, getElem!_pos j.zero.cells (q % j.size) hm] at hv
      unfold sliceZero at hq
      rw [List.getElem?_map, List.getElem?_range hlt] at hq
      simp only [Option.map_some, Option.some.injEq] at hq
      have hl : (lzero j)[q % j.size]? = some x := by
        rw [List.getD_eq_getElem?_getD, List.getElem?_eq_getElem (by simp [lzero]; omega)] at hq
        rw [List.getElem?_eq_getElem (by simp [lzero]; omega)]
        simpa using hq
      exact lzero_rep G w K hz _ x v hl (by rw [Array.getElem?_eq_getElem hm, hv])) p1 p2 h
  have hll : l.length = n * j.size := by
    have : ∀ (lp : List (Nat × List LV)) (cs cs' : List LV) (pl : Nat → Option (Nat × Nat)), lfill pl cs lp = some cs' → cs'.length = cs.length := by
      intro lp
      induction lp with
      | nil => intro cs cs' pl h; obtain rfl : cs = cs' := by simpa [lfill] using h
               rfl
      | cons p lp ih =>
        intro cs cs' pl h
        obtain ⟨i, l⟩ := p
        simp only [lfill] at h
        cases hpl : pl i with
        | none => rw [hpl] at h; cases h
        | some os =>
          rw [hpl] at h
          simp only at h
          cases hb : (Nat.beq l.length os.2 && Nat.ble (os.1 + l.length) cs.length) with
          | false => rw [hb] at h; cases h
          | true =>
            rw [hb] at h
            rw [Bool.and_eq_true] at hb
            rw [ih _ _ _ h, splice_length (Nat.le_of_ble_eq_true hb.2)]
    rw [this _ _ _ _ h]; simp [sliceZero]
  refine ⟨cells', ?_, by rw [f2, hll], Flat.ofCells hll (by simpa using f2) (fun q x v hq hv => f3 q x v hq (by simpa using hv))⟩
  simp only [execOp, ho, Instr.buildSlice, Sem.run_bind, run_underlying e1, Result.andThen_ok, run_sizeOf' (hD.get hj), hbig', if_false, List.map_toArray, show (2 : Nat) ^ 24 = 16777216 from rfl]
  by_cases hn : n * j.size = 0
  · have hz0 : zc = (Array.range (n * j.size)).map ((#[] : Array Value)[· % (#[] : Array Value).size]!) := by rw [hzc, hn]; simp
    rw [if_pos hn]
    simp only [pure_bind]
    rw [← hz0, f1]
    simp [newRow]
  · rw [if_neg hn]
    simp only [Sem.run_bind, run_zero' (hD.get hj), Sem.run_pure, Result.andThen_ok]
    rw [← hzc, f1]
    simp [newRow]

/-- A slice literal, shared. -/
theorem LVal.buildSlice {G : Ctx} {D : Tab} (hD : TabOK G.P D) {o : Oper} {T : Nat → TV} {S : LS} {t e : TypeId} {n : Nat} {ps : List (Nat × Operand)} {lp : List (Nat × List LV)} {l : List LV} {i j : TI} (ho : o.op = .buildSlice t n ps.toArray)
    (hp : lparts T ps = some lp) (hi : D.get t = some i) (hd : i.desc = .slice e) (hj : D.get e = some j) (hsz : Nat.blt 0 j.size = true) (hzs : j.zero.cells.size = j.size) (hz : j.zero.cells.toList.all Value.oneCell' = true) (hbig : Nat.ble (n * j.size) 16777216 = true)
    (h : lfill (fun k => some (k * j.size, j.size)) (sliceZero j n) lp = some l) : LVal G o T S (.one (.sl .sh (chunks j.size l n))) := by
  intro K w ac hi' hr
  obtain ⟨c, h1, h2, h3⟩ := run_buildSlice hD ho hp hi hd hj hsz hzs hz hbig h hr
  have hz' : j.size = G.P.cellsOf e := (cellsOf' (hD.get hj)).symm
  have hsz' : 0 < j.size := by simpa [Nat.blt_eq] using hsz
  have hn : n ≤ maxLen := by
    have := Nat.le_of_ble_eq_true hbig
    have : n * 1 ≤ n * j.size := Nat.mul_le_mul_left n hsz'
    unfold maxLen; omega
  obtain ⟨k1, k2, k3⟩ := hi'.newRow (cap := n) h3 hz' c (by rw [← h3.len]; exact List.take_length) h2 (by rw [chunks_length]; exact Nat.le_refl _) hn
  unfold Oper.wp
  rw [h1]
  rw [chunks_length] at k1 k2 k3
  exact ⟨_, _, rfl, .one k3.share, k1.forget (LS.le.newRow (LS.le.refl _) hi'.fresh _ _) hi'.wf (fun b x hb => (hi'.row b x.1 x.2 hb).2.2.1), k2⟩

/-- A slice literal of the call's own. -/
theorem LDo.buildSlice {G : Ctx} {D : Tab} (hD : TabOK G.P D) {o : Oper} {T : Nat → TV} {S : LS} {t e : TypeId} {n : Nat} {ps : List (Nat × Operand)} {lp : List (Nat × List LV)} {l : List LV} {i j : TI} (ho : o.op = .buildSlice t n ps.toArray)
    (hp : lparts T ps = some lp) (hi : D.get t = some i) (hd : i.desc = .slice e) (hj : D.get e = some j) (hsz : Nat.blt 0 j.size = true) (hzs : j.zero.cells.size = j.size) (hz : j.zero.cells.toList.all Value.oneCell' = true) (hbig : Nat.ble (n * j.size) 16777216 = true)
    (h : lfill (fun k => some (k * j.size, j.size)) (sliceZero j n) lp = some l) : LDo G o T S (fun r S' => ∃ b, S.fresh b ∧ r = .one (.sl (.own b) (chunks j.size l n)) ∧ S' = S.newRow b e n) := by
  intro K w ac hi' hr
  obtain ⟨c, h1, h2, h3⟩ := run_buildSlice hD ho hp hi hd hj hsz hzs hz hbig h hr
  have hz' : j.size = G.P.cellsOf e := (cellsOf' (hD.get hj)).symm
  have hsz' : 0 < j.size := by simpa [Nat.blt_eq] using hsz
  have hn : n ≤ maxLen := by
    have := Nat.le_of_ble_eq_true hbig
    have : n * 1 ≤ n * j.size := Nat.mul_le_mul_left n hsz'
    unfold maxLen; omega
  obtain ⟨k1, k2, k3⟩ := hi'.newRow (cap := n) h3 hz' c (by rw [← h3.len]; exact List.take_length) h2 (by rw [chunks_length]; exact Nat.le_refl _) hn
  unfold Oper.wp
  rw [h1]
  rw [chunks_length] at k1 k2 k3
  exact ⟨_, _, _, _, rfl, .one k3, k1, k2, w.heap.size, hi'.fresh, rfl, rfl⟩

/-- A slice of one element, for an append. -/
theorem LVal.buildSlice1 {G : Ctx} {D : Tab} (hD : TabOK G.P D) {o : Oper} {T : Nat → TV} {S : LS} {t e : TypeId} {x : Operand} {c : List LV} {i j : TI} (ho : o.op = .buildSlice t 1 #[(0, x)])
    (hx : tcells (lev T x) = some c) (hi : D.get t = some i) (hd : i.desc = .slice e) (hj : D.get e = some j) (hc : Nat.beq c.length j.size = true) (hsz : Nat.blt 0 j.size = true) (hzs : j.zero.cells.size = j.size) (hz : j.zero.cells.toList.all Value.oneCell' = true) (hbig : Nat.ble j.size 16777216 = true) :
    LVal G o T S (.one (.sl .sh [c])) := by
  have hcl : c.length = j.size := Nat.eq_of_beq_eq_true hc
  have hzl : (sliceZero j 1).length = j.size := by simp [sliceZero]
  have h := LVal.buildSlice (T := T) (S := S) hD (ps := [(0, x)]) ho (lp := [(0, c)]) (by simp only [lparts, hx]) hi hd hj hsz hzs hz (by rw [Nat.one_mul]; exact hbig) (l := splice (sliceZero j 1) 0 c) (by
    simp only [lfill, Nat.zero_mul, Nat.zero_add]
    have h1 : Nat.ble c.length (sliceZero j 1).length = true := by rw [hzl, hcl]; exact Nat.ble_eq_true_of_le (Nat.le_refl _)
    rw [hc, h1]; rfl)
  have e1 : splice (sliceZero j 1) 0 c = c := by
    unfold splice
    rw [List.drop_eq_nil_of_le (by omega)]; simp
  rw [e1] at h
  have e2 : chunks j.size c 1 = [c] := by
    simp only [chunks]
    rw [List.take_of_length_le (by omega)]
  rw [e2] at h
  exact h

/-- append of one element. -/
theorem LDo.append1 {G : Ctx} {D : Tab} (hD : TabOK G.P D) {o : Oper} {T : Nat → TV} {S : LS} {t e : TypeId} {s x : Operand} {o1 o2 : Own} {es : List (List LV)} {c : List LV} {i j : TI}
    (ho : o.op = .call { callee := .builtin .append, args := #[s, x], argTypes := #[t, t] }) (hs : lev T s = .one (.sl o1 es)) (hx : lev T x = .one (.sl o2 [c])) (hi : D.get t = some i) (hd : i.desc = .slice e) (hj : D.get e = some j)
    (hsz : Nat.blt 0 j.size = true) (hzs : j.zero.cells.size = j.size) (hc : Nat.beq c.length j.size = true) {n : Nat} (hn : es.length = n) (hown : Owned S e n o1) (hbytes : (n + 1) * j.bytes ≤ 140737488355328) (hl : n ≤ 140737488355328) :
    LDo G o T S (fun r S' => ∃ o', r = .one (.sl o' (es ++ [c])) ∧ Owned S' e (n + 1) o' ∧ S.upto o1 S' ∧ ∀ b, o' = .own b → o1 = .own b ∨ S.fresh b) := by
  subst hn
  exact LDo.append hD ho hs hx hi hd hj hsz hzs hown (by simpa using Nat.eq_of_beq_eq_true hc) (by simp only [List.length_singleton, maxLen]; omega) hbytes

/-- An own slice's row was not there at the beginning. -/
def Out (S : LS) (o : Own) : Prop := ∀ b, o = .own b → S.row b = none

theorem Out.nil (S : LS) : Out S .nil := fun b h => by cases h
theorem Out.sh (S : LS) : Out S .sh := fun b h => by cases h
theorem Out.fresh {S0 S : LS} (hle : S0.le S) {b : Nat} (h : S.fresh b) : Out S0 (.own b) := fun c hc => by
  obtain rfl : b = c := by simpa using hc
  cases hq : S0.row b with
  | none => rfl
  | some x => have := hle.row b x hq; rw [h.row] at this; cases this
theorem Out.next {S0 S : LS} (hle : S0.le S) {o o' : Own} (h : Out S0 o) (hn : ∀ b, o' = .own b → o = .own b ∨ S.fresh b) : Out S0 o' := fun b hb => by
  rcases hn b hb with h1 | h1
  · exact h b h1
  · exact Out.fresh hle h1 b rfl

theorem LS.le.upto {S0 S S' : LS} {o : Own} (h : S0.le S) (hu : S.upto o S') (ho : Out S0 o) : S0.le S' :=
  ⟨fun b cs hb => hu.box b cs (h.box b cs hb), fun b x hb => hu.row b x (fun e => by rw [ho b e] at hb; cases hb) (h.row b x hb), fun b x hb => hu.obj b x (h.obj b x hb), Nat.le_trans h.top hu.top⟩

theorem Owned.upto {S S' : LS} {o o2 : Own} {e : TypeId} {n : Nat} (h : Owned S e n o2) (hu : S.upto o S') (hd : ∀ b, o = .own b → o2 ≠ .own b) : Owned S' e n o2 := by
  cases o2 with
  | nil => exact h
  | sh => exact h
  | own b => exact hu.row b _ (fun e => hd b e rfl) h

theorem own_apart {S : LS} {o o' o2 : Own} {e : TypeId} {n : Nat} (h : Owned S e n o2) (hn : ∀ b, o' = .own b → o = .own b ∨ S.fresh b) (hd : ∀ b, o = .own b → o2 ≠ .own b) : ∀ b, o' = .own b → o2 ≠ .own b := fun b hb h2 => by
  rcases hn b hb with h1 | h1
  · exact hd b h1 h2
  · subst h2
    have h3 : S.row b = some (e, n) := h
    rw [h1.row] at h3
    cases h3

theorem Owned.setBox {S : LS} {o : Own} {e : TypeId} {n b : Nat} {cs : List LV} (h : Owned S e n o) : Owned (S.setBox b cs) e n o := by cases o <;> exact h
theorem Owned.newBox {S : LS} {o : Own} {e : TypeId} {n b : Nat} {cs : List LV} (h : Owned S e n o) : Owned (S.newBox b cs) e n o := by cases o <;> exact h

end Go.Proofs.Ytgkjhlmfgaaddaa.LF
end

section
/- The frame's results of functions; slices of slices and of strings; parts of arrays. -/
namespace Go.Proofs.Ytgkjhlmfgaaddaa.LF
open Go.RowKit

/-- A result variable's value. -/
inductive RV (G : Ctx) (T : Nat → TV) (S : LS) : ResultVar → TV → Prop
  | tmp (t : Tmp) : RV G T S (.tmp t) (T t)
  | cell {a : Tmp} {ty : TypeId} {b off : Nat} {cs : List LV} {i : TI} {r : TV} (ha : T a = .one (.v (.pointer (some ⟨b, off, none⟩)))) (hb : S.box b = some cs) (hi : TIok G.P ty i) (hr : readT i (cs.drop off) = some r) : RV G T S (.cell a ty) r

/-- A result variable, as 'results' reads it. -/
def rvVal (tmps : Array Value) : ResultVar → Sem Value
  | .tmp t => pure (tmps.getD t undef)
  | .cell p t => do loadVar t (← asAddr (tmps.getD p undef))

theorem results_eq (fn : Func) (tmps : Array Value) : results fn tmps = (do let vs ← fn.results.mapM (rvVal tmps); pure (if h : vs.size = 1 then vs[0] else .tuple vs)) := rfl

inductive RVs (G : Ctx) (T : Nat → TV) (S : LS) : List ResultVar → List TV → Prop
  | nil : RVs G T S [] []
  | cons {v : ResultVar} {r : TV} {vs : List ResultVar} {rs : List TV} (h : RV G T S v r) (k : RVs G T S vs rs) : RVs G T S (v :: vs) (r :: rs)

theorem RV.run {G : Ctx} {T : Nat → TV} {S : LS} {v : ResultVar} {r : TV} (h : RV G T S v r) {K : Kept} {w : World} {n : Nat} {a : Act} (hi : Inv G S K w) (hr : RelT G w K n T a) :
    ∃ u, (rvVal a.tmps v).run G.P w = .ok u w ∧ RepT G w K r u := by
  cases h with
  | tmp t => exact ⟨_, rfl, hr.2 t⟩
  | @cell p ty b off cs i r ha hb ht hrd =>
    have h1 := hr.2 p
    rw [ha] at h1
    obtain ⟨c, T', e1, e2, e3⟩ := hi.cells hb
    obtain ⟨u, hl, hru⟩ := RepT.load (G := G) (K := K) (w := w) ht (b := b) (off := off) (c := fun j => c.getD (off + j) undef) (l := cs.drop off) (fun j x hj => by
        rw [List.getElem?_drop] at hj
        obtain ⟨v, h1, h2, _⟩ := e3 _ _ hj
        rw [h2, Array.getD_eq_getD_getElem?, h1]; rfl) (fun j x hj => by
        rw [List.getElem?_drop] at hj
        obtain ⟨v, h1, _, h2⟩ := e3 _ _ hj
        rw [Array.getD_eq_getD_getElem?, h1]; exact h2) hrd
    refine ⟨u, ?_, hru⟩
    simp only [rvVal, h1.flat, Sem.run_bind, asAddr, Sem.run_pure, Result.andThen_ok, hl]

theorem RVs.run {G : Ctx} {T : Nat → TV} {S : LS} {K : Kept} {w : World} {n : Nat} {a : Act} (hi : Inv G S K w) (hr : RelT G w K n T a) : ∀ {vs : List ResultVar} {rs : List TV}, RVs G T S vs rs →
    ∃ us : List Value, (vs.mapM (rvVal a.tmps) : Sem (List Value)).run G.P w = .ok us w ∧ us.length = rs.length ∧ ∀ (j : Nat) x v, rs[j]? = some x → us[j]? = some v → RepT G w K x v := by
  intro vs rs h
  induction h with
  | nil => exact ⟨[], by simp, rfl, by simp⟩
  | @cons v r vs rs h k ih =>
    obtain ⟨u, h1, h2⟩ := h.run hi hr
    obtain ⟨us, h3, h4, h5⟩ := ih
    refine ⟨u :: us, ?_, by simp [h4], fun j x y hj hy => ?_⟩
    · simp only [List.mapM_cons, Sem.run_bind, h1, Result.andThen_ok, h3, Sem.run_pure]
    · cases j with
      | zero =>
        obtain rfl : r = x := by simpa using hj
        obtain rfl : u = y := by simpa using hy
        exact h2
      | succ j => exact h5 j x y (by simpa using hj) (by simpa using hy)

theorem LRes.many {G : Ctx} {n : Nat} {fn : Func} {T : Nat → TV} {S : LS} {vs : List ResultVar} {rs : List TV} (h : fn.results = vs.toArray) (hn : Nat.beq vs.length 1 = false) (hv : RVs G T S vs rs) : LRes G n fn T S (.tup rs) :=
  fun K w a hi hr => by
    obtain ⟨us, h1, h2, h3⟩ := hv.run hi hr
    have hlen : us.length = vs.length := by
      rw [h2]
      clear h1 h2 h3 hn h
      induction hv with
      | nil => rfl
      | cons _ _ ih => simp [ih]
    have hne : us.length ≠ 1 := fun e => by rw [hlen] at e; rw [e] at hn; exact absurd hn (by decide)
    refine ⟨.tuple us.toArray, ?_, .tup rs us.toArray (by simpa using h2) (fun j x v hj hv' => h3 j x v hj (by simpa using hv'))⟩
    rw [results_eq, h, Array.mapM_eq_mapM_toList]
    simp only [Sem.run_bind, Sem.run_map, h1]
    simp [hne]

theorem LRes.cell {G : Ctx} {n : Nat} {fn : Func} {T : Nat → TV} {S : LS} {a : Tmp} {ty : TypeId} {r : TV} (h : fn.results = #[.cell a ty]) (hv : RV G T S (.cell a ty) r) : LRes G n fn T S r :=
  fun K w ac hi hr => by
    obtain ⟨u, h1, h2⟩ := hv.run hi hr
    refine ⟨u, ?_, h2⟩
    rw [results_eq, h, Array.mapM_eq_mapM_toList]
    simp [h1]

theorem LRes.sh {G : Ctx} {n : Nat} {fn : Func} {T : Nat → TV} {S : LS} {r : TV} (h : LRes G n fn T S r) : LRes G n fn T S (shTV r) :=
  fun K w a hi hr => by obtain ⟨v, h1, h2⟩ := h K w a hi hr; exact ⟨v, h1, h2.shTV⟩

theorem run_sliceBound {P : Program} {w : World} {k : IntKind} {n : Int} {y : Nat} {c : BoundsCode} (h0 : 0 ≤ n) (h1 : n ≤ y) : (Instr.sliceBound (.int k n) y c).run P w = .ok n.toNat w := by
  simp [Instr.sliceBound, asIntOf, h0, h1]

/-- The bounds of a slice expression, as numbers. -/
def bnd (T : Nat → TV) (d : Int) : Option Operand → Option Int
  | none => some d
  | some x => match lev T x with
    | .one (.v (.int _ n)) => some n
    | _ => none

theorem bnd_spec {G : Ctx} {w : World} {K : Kept} {T : Nat → TV} {a : Act} {x : Operand} {d n : Int} (hr : RepT G w K (lev T x) (a.eval x)) (h : bnd T d (some x) = some n) : ∃ k, a.eval x = .int k n := by
  simp only [bnd] at h
  split at h
  · rename_i k m hl
    rw [hl] at hr
    obtain rfl : m = n := by simpa using h
    exact ⟨k, hr.flat⟩
  · cases h

theorem run_bounds {G : Ctx} {w : World} {K : Kept} {T : Nat → TV} {a : Act} {lo hi : Option Operand} {l h : Int} {isS : Bool} {len cap : Nat} (hlo : ∀ x, lo = some x → RepT G w K (lev T x) (a.eval x)) (hhi : ∀ x, hi = some x → RepT G w K (lev T x) (a.eval x))
    (el : bnd T 0 lo = some l) (eh : bnd T len hi = some h) (h0 : 0 ≤ l) (h1 : l ≤ h) (h2 : h ≤ cap) :
    (Instr.sliceBounds isS len cap (lo.map a.eval) (hi.map a.eval) none).run G.P w = .ok (l.toNat, h.toNat, cap) w := by
  unfold Instr.sliceBounds
  cases hi with
  | none =>
    obtain rfl : (len : Int) = h := by simpa [bnd] using eh
    cases lo with
    | none =>
      obtain rfl : (0 : Int) = l := by simpa [bnd] using el
      simp
    | some x =>
      obtain ⟨k, hk⟩ := bnd_spec (hlo x rfl) el
      have := run_sliceBound (P := G.P) (w := w) (k := k) (c := .sliceB) (y := len) h0 h1
      simp [hk, this]
  | some y =>
    obtain ⟨k', hk'⟩ := bnd_spec (hhi y rfl) eh
    have b1 : ∀ c, (Instr.sliceBound (.int k' h) cap c).run G.P w = .ok h.toNat w := fun c => run_sliceBound (by omega) h2
    cases lo with
    | none =>
      obtain rfl : (0 : Int) = l := by simpa [bnd] using el
      simp [hk', b1]
    | some x =>
      obtain ⟨k, hk⟩ := bnd_spec (hlo x rfl) el
      have := run_sliceBound (P := G.P) (w := w) (k := k) (c := .sliceB) (y := h.toNat) h0 (by omega)
      simp [hk, hk', b1, this]

theorem sliceAt_slice {P : Program} {w : World} {t e : TypeId} (h : P.underlying t = some (.slice e)) (x : Value) (lo hi mx : Option Value) : (Instr.sliceAt t x lo hi mx).run P w = (Instr.slice t x lo hi mx).run P w := by
  simp [Instr.sliceAt, run_underlying h]

/-- A part of a slice whose cells stay. -/
theorem LVal.sliceSl {G : Ctx} {D : Tab} (hD : TabOK G.P D) {o : Oper} {T : Nat → TV} {S : LS} {t e : TypeId} {x : Operand} {lo hi : Option Operand} {w0 : Own} {es : List (List LV)} {l h : Int} {i j : TI} (ho : o.op = .slice t x lo hi none)
    (hx : lev T x = .one (.sl w0 es)) (hi' : D.get t = some i) (hd : i.desc = .slice e) (hj : D.get e = some j) (el : bnd T 0 lo = some l) (eh : bnd T es.length hi = some h) (h0 : 0 ≤ l) (h1 : l ≤ h) (h2 : h ≤ es.length) (hsz0 : Nat.blt 0 j.size = true) (hsz : ∀ c ∈ es, c.length = j.size) :
    LVal G o T S (.one (.sl .sh ((es.drop l.toNat).take (h - l).toNat))) :=
  .of_run fun K w ac hi'' hr => by
    have r1 := hr x (by rw [ho]; simp [Op.operands])
    rw [hx] at r1
    have e1 := (hD.get hi').und
    rw [hd] at e1
    have rlo : ∀ x, lo = some x → RepT G w K (lev T x) (ac.eval x) := fun x hx => hr x (by rw [ho, hx]; simp [Op.operands])
    have rhi : ∀ x, hi = some x → RepT G w K (lev T x) (ac.eval x) := fun x hx => hr x (by rw [ho, hx]; simp [Op.operands])
    have hex : ∀ v, (Instr.slice t (ac.eval x) (lo.map ac.eval) (hi.map ac.eval) none).run G.P w = .ok v w → (execOp ac.eval o).run G.P w = .ok (.value v) w := fun v h => by
      have h3 := sliceAt_slice (w := w) e1 (ac.eval x) (lo.map ac.eval) (hi.map ac.eval) none
      simp only [execOp, ho, Sem.run_bind, Option.map_none, h3, h, Result.andThen_ok, Sem.run_pure]
    have r2 := r1.of_one
    by_cases hne : es = []
    · subst hne
      have hl : l = 0 ∧ h = 0 := by simp at h2; omega
      obtain ⟨rfl, rfl⟩ := hl
      have hv : ∃ a cap, ac.eval x = .slice a 0 cap := by
        generalize ac.eval x = v at r2
        cases r2 with
        | nil => exact ⟨none, 0, rfl⟩
        | emp a cap => exact ⟨a, cap, rfl⟩
        | row _ _ b off cap z c => exact ⟨_, _, rfl⟩
      obtain ⟨a, cap, hv⟩ := hv
      have hb := run_bounds (isS := true) (cap := cap) rlo rhi el eh (by omega) (by omega) (by omega)
      refine ⟨.slice (if cap = 0 then a else a.map (·.add 0)) 0 cap, hex _ ?_, .one (by simpa using Rep.emp _ _)⟩
      simp only [List.length_nil] at hb
      simp [hv, Instr.slice, run_underlying e1, hb, run_sizeOf' (hD.get hj)]
    · have hsz' : 0 < j.size := by simpa [Nat.blt_eq] using hsz0
      obtain ⟨b, off, cap, vs, f1, f2, f3, f4, f5⟩ := r2.flat hsz' hsz hne
      have hb := run_bounds (isS := true) (cap := cap) rlo rhi el eh h0 h1 (by omega)
      obtain ⟨l', rfl⟩ : ∃ l' : Nat, l = l' := ⟨l.toNat, by omega⟩
      obtain ⟨h', rfl⟩ : ∃ h' : Nat, h = h' := ⟨h.toNat, by omega⟩
      have e0 : ((h' : Int) - (l' : Int)).toNat = h' - l' := by omega
      rw [e0, Int.toNat_natCast]
      have hlen : ((es.drop l').take (h' - l')).length = h' - l' := by simp; omega
      refine ⟨.slice (if cap = l' then some ⟨b, off, none⟩ else some ⟨b, off + l' * j.size, none⟩) (h' - l') (cap - l'), hex _ ?_, .one ?_⟩
      · simp only [f1, Instr.slice, Sem.run_bind, run_underlying e1, Result.andThen_ok, hb, run_sizeOf' (hD.get hj), Sem.run_pure, Int.toNat_natCast, Option.map_some, add_off]
      · by_cases hc : cap = l'
        · rw [if_pos hc]
          have : (es.drop l').take (h' - l') = [] := List.length_eq_zero_iff.1 (by omega)
          rw [this]
          rw [show h' - l' = 0 by omega]
          exact .emp _ _
        · rw [if_neg hc]
          have hfl : Flat G w K j.size ((es.drop l').take (h' - l')) ((vs.drop (l' * j.size)).take ((h' - l') * j.size)) := by
            refine ⟨?_, fun e he => hsz e (List.mem_of_mem_drop (List.mem_of_mem_take he)), fun p q x hp => ?_⟩
            · rw [hlen, List.length_take, List.length_drop, f3.len]
              apply Nat.min_eq_left
              rw [← Nat.sub_mul]
              exact Nat.mul_le_mul_right _ (by omega)
            · have heach : ∀ e ∈ (es.drop l').take (h' - l'), e.length = j.size := fun e he => hsz e (List.mem_of_mem_drop (List.mem_of_mem_take he))
              obtain ⟨c1, c2⟩ := cellOf_lt heach hp
              rw [hlen] at c1
              have hp' : cellOf es (l' + p) q = some x := by
                unfold cellOf at hp ⊢
                rw [List.getElem?_take, if_pos c1, List.getElem?_drop] at hp
                exact hp
              obtain ⟨v, g1, g2⟩ := f3.rep _ _ x hp'
              refine ⟨v, ?_, g2⟩
              rw [List.getElem?_take, if_pos (lt_mul c1 c2), List.getElem?_drop]
              rw [Nat.add_mul, Nat.add_assoc] at g1
              exact g1
          have := Rep.ofFlat (o := .sh) (b := b) (off := off + l' * j.size) (cap := cap - l') hfl (by simp) (by omega) (fun q u hq => by
            rw [List.getElem?_take] at hq
            split at hq
            · rw [List.getElem?_drop] at hq
              have := f4 _ u hq
              rw [← Nat.add_assoc] at this
              exact this
            · cases hq) (by simp)
          rw [hlen] at this
          exact this

/-- A part of a string. -/
theorem LVal.sliceStr {G : Ctx} {D : Tab} (hD : TabOK G.P D) {o : Oper} {T : Nat → TV} {S : LS} {t : TypeId} {x : Operand} {lo hi : Option Operand} {s : ByteArray} {l h : Int} {i : TI} (ho : o.op = .slice t x lo hi none)
    (hx : lev T x = .one (.v (.string s))) (hi' : D.get t = some i) (hd : i.desc = .string) (el : bnd T 0 lo = some l) (eh : bnd T s.size hi = some h) (h0 : 0 ≤ l) (h1 : l ≤ h) (h2 : h ≤ s.size) :
    LVal G o T S (.one (.v (.string (s.extract l.toNat h.toNat)))) :=
  .of_run fun K w ac hi'' hr => by
    have r1 := hr x (by rw [ho]; simp [Op.operands])
    rw [hx] at r1
    have e1 := (hD.get hi').und
    rw [hd] at e1
    have rlo : ∀ x, lo = some x → RepT G w K (lev T x) (ac.eval x) := fun x hx => hr x (by rw [ho, hx]; simp [Op.operands])
    have rhi : ∀ x, hi = some x → RepT G w K (lev T x) (ac.eval x) := fun x hx => hr x (by rw [ho, hx]; simp [Op.operands])
    have hb := run_bounds (isS := false) (cap := s.size) rlo rhi el eh h0 h1 h2
    refine ⟨_, ?_, .raw rfl⟩
    simp [execOp, ho, r1.flat, Instr.sliceAt, Instr.slice, run_underlying e1, hb]

end Go.Proofs.Ytgkjhlmfgaaddaa.LF
end
