/- The frame's rules for code: sequence, test, block, loop, region, the entering of a function. -/
import Derived.Test.YtkjbdldjfjkneaaLFa
import Derived.Deep.LoopGhost
set_option linter.unusedVariables false
set_option linter.unusedSimpArgs false
namespace Go.Proofs.Ytkjbdldjfjkneaa.LF
open Go.RowKit
set_option linter.unusedVariables false

/-- Forgetting whose slices are. -/
def shLV : LV → LV
  | .sl _ es => .sl .sh es
  | x => x

def shTV : TV → TV
  | .one x => .one (shLV x)
  | .agg l => .agg (l.map shLV)
  | .tup [a] => .tup [shTV a]
  | .tup [a, b] => .tup [shTV a, shTV b]
  | .tup [a, b, c] => .tup [shTV a, shTV b, shTV c]
  | x => x

theorem Rep.shLV {G : Ctx} {w : World} {K : Kept} {x : LV} {v : Value} (h : Rep G w K x v) : Rep G w K (shLV x) v := by
  cases x with
  | v x => exact h
  | sl o es => exact h.share
  | p l => exact h

theorem RepT.shTV {G : Ctx} {w : World} {K : Kept} {x : TV} {v : Value} (h : RepT G w K x v) : RepT G w K (shTV x) v := by
  induction h with
  | one h => exact .one h.shLV
  | agg l vs hs h =>
    refine .agg _ _ (by simpa using hs) fun j x v hj hv => ?_
    rw [List.getElem?_map] at hj
    cases hq : l[j]? with
    | none => rw [hq] at hj; cases hj
    | some y =>
      rw [hq] at hj
      obtain rfl : LF.shLV y = x := by simpa using hj
      exact (h j y v hq hv).shLV
  | tup l vs hs h ih =>
    have key : ∀ l' : List TV, l'.length = l.length → (∀ (j : Nat) x y, l[j]? = some x → l'[j]? = some y → y = LF.shTV x) → RepT G w K (.tup l') (.tuple vs) := by
      intro l' hl' hj'
      refine .tup _ _ (by omega) fun j y v hy hv => ?_
      have hlt := (List.getElem?_eq_some_iff.1 hy).1
      have := hj' j _ y (List.getElem?_eq_getElem (by omega)) hy
      rw [this]
      exact ih j _ v (List.getElem?_eq_getElem (by omega)) hv
    match l, key with
    | [], _ => exact .tup _ _ hs h
    | [a], key => exact key [LF.shTV a] rfl (fun j x y hx hy => by cases j <;> simp_all)
    | [a, b], key => exact key [LF.shTV a, LF.shTV b] rfl (fun j x y hx hy => by
        match j with
        | 0 => simp_all
        | 1 => simp_all
        | j + 2 => simp at hx)
    | [a, b, c], key => exact key [LF.shTV a, LF.shTV b, LF.shTV c] rfl (fun j x y hx hy => by
        match j with
        | 0 => simp_all
        | 1 => simp_all
        | 2 => simp_all
        | j + 3 => simp at hx)
    | a :: b :: c :: d :: l, _ => exact .tup _ _ hs h
  | ro l b off c h hr => exact .ro l b off c h hr
  | any v => exact .any v
  | when b r v h1 h0 ih => exact .when b r v h1 h0

def constLV : Value → LV
  | .slice none 0 0 => .sl .nil []
  | x => .v x

def constTV : Value → TV
  | .agg cs => bif cs.toList.all Value.oneCell' then .agg (cs.toList.map constLV) else .any
  | .tuple _ => .any
  | x => .one (constLV x)

theorem constLV_rep (G : Ctx) (w : World) (K : Kept) (x : Value) (h : x.oneCell' = true) : Rep G w K (constLV x) x := by
  unfold constLV
  split
  · exact .nil
  · exact .raw _ h

theorem constTV_rep (G : Ctx) (w : World) (K : Kept) (x : Value) : RepT G w K (constTV x) x := by
  unfold constTV
  split
  · rename_i cs
    cases hall : cs.toList.all Value.oneCell' with
    | false => exact .any _
    | true =>
    refine .agg _ _ (by simp) fun j x v hj hv => ?_
    rw [List.getElem?_map] at hj
    have : cs.toList[j]? = some v := by simpa using hv
    rw [this] at hj
    simp only [Option.map_some, Option.some.injEq] at hj
    subst hj
    exact constLV_rep G w K v (List.all_eq_true.1 hall v (List.mem_of_getElem? this))
  · exact .any _
  · rename_i h1 h2
    exact .one (constLV_rep G w K _ (by cases x <;> first | rfl | exact absurd rfl (h1 _) | exact absurd rfl (h2 _)))

def lev (T : Nat → TV) : Operand → TV
  | .tmp t => T t
  | .const v => constTV v
  | .global g => .one (.v (.pointer (some ⟨g, 0, none⟩)))
  | .func f => .one (.v (.func (.func f) #[] #[]))

theorem RelT.eval {G : Ctx} {w : World} {K : Kept} {n : Nat} {T : Nat → TV} {a : Act} (h : RelT G w K n T a) (x : Operand) : RepT G w K (lev T x) (a.eval x) := by
  cases x with
  | tmp t => exact h.2 t
  | const v => exact constTV_rep G w K v
  | global g => exact .one (.raw _ rfl)
  | func f => exact .one (.raw _ rfl)

/-- An operation that gives a value and turns nothing of the logical memory. -/
def LVal (G : Ctx) (o : Oper) (T : Nat → TV) (S : LS) (r : TV) : Prop :=
  ∀ K w a, Inv G S K w → (∀ x ∈ o.op.operands, RepT G w K (lev T x) (a.eval x)) →
    o.wp G.P a w (fun a' w' => ∃ v K', a' = a.put o.dst v ∧ RepT G w' K' r v ∧ Inv G S K' w' ∧ Ext K w K' w') (fun _ _ _ => False)

/-- An operation that turns the logical memory. -/
def LDo (G : Ctx) (o : Oper) (T : Nat → TV) (S : LS) (R : TV → LS → Prop) : Prop :=
  ∀ K w a, Inv G S K w → (∀ x ∈ o.op.operands, RepT G w K (lev T x) (a.eval x)) →
    o.wp G.P a w (fun a' w' => ∃ r v S' K', a' = a.put o.dst v ∧ RepT G w' K' r v ∧ Inv G S' K' w' ∧ Ext K w K' w' ∧ R r S') (fun _ _ _ => False)

theorem LVal.congr {G : Ctx} {o : Oper} {T T' : Nat → TV} {S : LS} {r : TV} (h : LVal G o T S r) (hT : ∀ x ∈ o.op.operands, lev T x = lev T' x) : LVal G o T' S r :=
  fun K w a hi hr => h K w a hi fun x hx => by rw [hT x hx]; exact hr x hx

theorem LVal.do {G : Ctx} {o : Oper} {T : Nat → TV} {S : LS} {r : TV} {R : TV → LS → Prop} (h : LVal G o T S r) (hR : R r S) : LDo G o T S R :=
  fun K w a hi hr => upon_mono (fun _ _ ⟨v, K', h1, h2, h3, h4⟩ => ⟨r, v, S, K', h1, h2, h3, h4, hR⟩) (fun _ _ _ h => h) (h K w a hi hr)

theorem LDo.step {G : Ctx} {M : Option Nat} {n : Nat} {o : Oper} {Q : (Nat → TV) → LS → Prop} {T : Nat → TV} {S : LS} {R : TV → LS → Prop} (h : LDo G o T S R) (hd : dstOK n o.dst = true)
    (hq : ∀ r S', R r S' → Q (putT T o.dst r) S') : LStep G M n o Q T S := by
  intro m K w a hi ht hf
  refine wpIn_of_wp (h K w a hi fun x _ => ht.eval x) fun a' w' hp => ?_
  obtain ⟨r, v, S', K', rfl, h2, h3, h4, h5⟩ := hp
  exact ⟨put_defers _ _ _, _, S', K', h3, (ht.mono h4).put hd h2, by rw [put_defers]; exact hf.mono h4, h4, hq _ _ h5⟩

theorem LOps.val {G : Ctx} {M : Option Nat} {n : Nat} {ops : Array Oper} {o : Oper} {l : List Oper} {Q : (Nat → TV) → LS → Prop} {T : Nat → TV} {S : LS} {r : TV} {d : Nat} (h : LVal G o T S r)
    (hg : o.guard = none) (hd : o.dst = some d) (hn : Nat.blt d n = true) (k : LOps G M n ops l Q (upd T d r) S) : LOps G M n ops (o :: l) Q T S :=
  .step hg (LDo.step (R := fun r' S' => r' = r ∧ S' = S) (h.do ⟨rfl, rfl⟩) (by rw [hd]; exact hn) (by rintro _ _ ⟨rfl, rfl⟩; rw [hd]; exact k))

theorem LOps.valG {G : Ctx} {M : Option Nat} {n : Nat} {ops : Array Oper} {o : Oper} {l : List Oper} {Q : (Nat → TV) → LS → Prop} {T : Nat → TV} {S : LS} {r : TV} {d : Nat} (h : LVal G o T S r)
    (hg : wantedT ops T o = some true) (hd : o.dst = some d) (hn : Nat.blt d n = true) (k : LOps G M n ops l Q (upd T d r) S) : LOps G M n ops (o :: l) Q T S :=
  .stepG hg (LDo.step (R := fun r' S' => r' = r ∧ S' = S) (h.do ⟨rfl, rfl⟩) (by rw [hd]; exact hn) (by rintro _ _ ⟨rfl, rfl⟩; rw [hd]; exact k))

theorem LOps.out {G : Ctx} {M : Option Nat} {n : Nat} {ops : Array Oper} {o : Oper} {l : List Oper} {Q : (Nat → TV) → LS → Prop} {T : Nat → TV} {S : LS} {d : Nat} (hg : wantedT ops T o = some false)
    (hd : o.dst = some d) (hn : Nat.blt d n = true) (h : LOps G M n ops l Q (upd T d (.tup [])) S) : LOps G M n ops (o :: l) Q T S :=
  .skip hg (by rw [hd]; exact hn) (by rw [hd]; exact h)

theorem LOps.do {G : Ctx} {M : Option Nat} {n : Nat} {ops : Array Oper} {o : Oper} {l : List Oper} {Q : (Nat → TV) → LS → Prop} {T : Nat → TV} {S : LS} {R : TV → LS → Prop} {d : Nat} (h : LDo G o T S R)
    (hg : wantedT ops T o = some true) (hd : o.dst = some d) (hn : Nat.blt d n = true) (k : ∀ r S', R r S' → LOps G M n ops l Q (upd T d r) S') : LOps G M n ops (o :: l) Q T S :=
  .stepG hg (h.step (by rw [hd]; exact hn) (fun r S' hr => by rw [hd]; exact k r S' hr))

theorem LOps.do0 {G : Ctx} {M : Option Nat} {n : Nat} {ops : Array Oper} {o : Oper} {l : List Oper} {Q : (Nat → TV) → LS → Prop} {T : Nat → TV} {S : LS} {R : TV → LS → Prop} (h : LDo G o T S R)
    (hg : wantedT ops T o = some true) (hd : o.dst = none) (k : ∀ r S', R r S' → LOps G M n ops l Q T S') : LOps G M n ops (o :: l) Q T S :=
  .stepG hg (h.step (by rw [hd]; rfl) (fun r S' hr => by rw [hd]; exact k r S' hr))

/-- A guard whose answer is open. -/
theorem LOps.guard {G : Ctx} {M : Option Nat} {n : Nat} {ops : Array Oper} {o : Oper} {l : List Oper} {Q : (Nat → TV) → LS → Prop} {T : Nat → TV} {S : LS} {d j : Nat} {w b : Bool} (_hj : o.guard = some (j, w)) (_hd : (ops[j]?).bind (·.dst) = some d)
    (hb : T d = .one (.v (.bool b))) (ht : b = true → LOps G M n ops (o :: l) Q (upd T d (.one (.v (.bool true)))) S) (hf : b = false → LOps G M n ops (o :: l) Q (upd T d (.one (.v (.bool false)))) S) : LOps G M n ops (o :: l) Q T S := by
  have e : T = upd T d (.one (.v (.bool b))) := by
    funext i
    by_cases h : i = d
    · subst h; rw [upd_same, hb]
    · rw [upd_ne _ _ h]
  rw [e]
  cases b
  · exact hf rfl
  · exact ht rfl

/-- A loop whose relation bears a number that each round lowers. -/
theorem wpIn_loop_num {F : Fence} {rm : Nat} {P : Program} {Q : Exit → Act → World → Prop} {a : Act} {w : World} {c : Code} (I : Nat → Act → World → Prop) (n₀ : Nat) (h₀ : I n₀ a w)
    (round : ∀ n a w, I n a w → c.wpIn F rm P (Exit.then (fun a' w' => ∃ n', n' < n ∧ I n' a' w') Q) a w) : (Code.loop c).wpIn F rm P Q a w := by
  refine wpIn_loop (fun a w => ∃ n, I n a w) (fun a w => leastOf (fun n => I n a w)) ⟨n₀, h₀⟩ ?_
  intro a w hI
  refine wpIn_mono (round _ a w (leastOf_spec hI).1) ?_
  intro e a' w' hq
  cases e with
  | normal =>
    obtain ⟨n', hlt, hI'⟩ := hq
    exact ⟨⟨n', hI'⟩, Nat.lt_of_le_of_lt ((leastOf_spec ⟨n', hI'⟩).2 n' hI') hlt⟩
  | _ => exact hq

section code
variable {G : Ctx} {M : Option Nat} {n : Nat} {Q : Exit → (Nat → TV) → LS → Prop} {T : Nat → TV} {S : LS}

def andThen (next : (Nat → TV) → LS → Prop) (Q : Exit → (Nat → TV) → LS → Prop) : Exit → (Nat → TV) → LS → Prop
  | .normal => next
  | e => Q e

theorem LWp.mono {c : Code} {Q' : Exit → (Nat → TV) → LS → Prop} (hq : ∀ e T S, Q e T S → Q' e T S) (h : LWp G M n c Q T S) : LWp G M n c Q' T S :=
  fun m K w a h1 h2 h3 => wpIn_mono (h m K w a h1 h2 h3) fun e _ _ hp => hp.mono (hq e)

theorem LWp.seq {x y : Code} (h : LWp G M n x (andThen (LWp G M n y Q) Q) T S) : LWp G M n (.seq x y) Q T S := by
  intro m K w a h1 h2 h3
  refine wpIn_seq (wpIn_mono (h m K w a h1 h2 h3) fun e a' w' hp => ?_)
  cases e with
  | normal =>
    obtain ⟨T', S', K', i1, i2, i3, i4, i5⟩ := hp
    exact wpIn_mono (i5 m K' w' a' i1 i2 i3) fun e a w hp => hp.trans i4
  | _ => exact hp

theorem LWp.skip (h : Q .normal T S) : LWp G M n .skip Q T S := fun _ K w _ h1 h2 h3 => wpIn_skip ⟨T, S, K, h1, h2, h3, .refl _ _, h⟩
theorem LWp.exit {id : Nat} (h : Q (.exit id) T S) : LWp G M n (.exit id) Q T S := fun _ K w _ h1 h2 h3 => wpIn_exit ⟨T, S, K, h1, h2, h3, .refl _ _, h⟩
theorem LWp.ret (h : Q .ret T S) : LWp G M n .ret Q T S := fun _ K w _ h1 h2 h3 => wpIn_ret ⟨T, S, K, h1, h2, h3, .refl _ _, h⟩

theorem LWp.cond {c : Operand} {x y : Code} {b : Bool} (hc : lev T c = .one (.v (.bool b))) (ht : b = true → LWp G M n x Q T S) (hf : b = false → LWp G M n y Q T S) : LWp G M n (.cond c x y) Q T S := by
  intro m K w a h1 h2 h3
  have he := h2.eval c
  rw [hc] at he
  have hv : a.eval c = .bool b := by
    generalize a.eval c = v at he
    cases he with
    | one h => cases h; rfl
  exact wpIn_cond_split hv (fun hb => ht hb m K w a h1 h2 h3) (fun hb => hf hb m K w a h1 h2 h3)

theorem LWp.condT {c : Operand} {x y : Code} (hc : lev T c = .one (.v (.bool true))) (h : LWp G M n x Q T S) : LWp G M n (.cond c x y) Q T S :=
  .cond hc (fun _ => h) (fun h => by cases h)
theorem LWp.condF {c : Operand} {x y : Code} (hc : lev T c = .one (.v (.bool false))) (h : LWp G M n y Q T S) : LWp G M n (.cond c x y) Q T S :=
  .cond hc (fun h => by cases h) (fun _ => h)

def inBlock (id : Nat) (Q : Exit → (Nat → TV) → LS → Prop) : Exit → (Nat → TV) → LS → Prop
  | .exit id', T, S => if id' = id then Q .normal T S else Q (.exit id') T S
  | e, T, S => Q e T S

theorem andThen_normal {next : (Nat → TV) → LS → Prop} {Q : Exit → (Nat → TV) → LS → Prop} {T : Nat → TV} {S : LS} (h : next T S) : andThen next Q .normal T S := h
theorem andThen_exit {next : (Nat → TV) → LS → Prop} {Q : Exit → (Nat → TV) → LS → Prop} {T : Nat → TV} {S : LS} {i : Nat} (h : Q (.exit i) T S) : andThen next Q (.exit i) T S := h
theorem andThen_ret {next : (Nat → TV) → LS → Prop} {Q : Exit → (Nat → TV) → LS → Prop} {T : Nat → TV} {S : LS} (h : Q .ret T S) : andThen next Q .ret T S := h
theorem inBlock_normal {id : Nat} {Q : Exit → (Nat → TV) → LS → Prop} {T : Nat → TV} {S : LS} (h : Q .normal T S) : inBlock id Q .normal T S := h
theorem inBlock_ret {id : Nat} {Q : Exit → (Nat → TV) → LS → Prop} {T : Nat → TV} {S : LS} (h : Q .ret T S) : inBlock id Q .ret T S := h
theorem inBlock_here {id : Nat} {Q : Exit → (Nat → TV) → LS → Prop} {T : Nat → TV} {S : LS} (h : Q .normal T S) : inBlock id Q (.exit id) T S := by simpa [inBlock] using h
theorem inBlock_out {id i : Nat} {Q : Exit → (Nat → TV) → LS → Prop} {T : Nat → TV} {S : LS} (hi : (i == id) = false) (h : Q (.exit i) T S) : inBlock id Q (.exit i) T S := by
  have : i ≠ id := by simpa using hi
  simpa [inBlock, this] using h

theorem LWp.block {id : Nat} {c : Code} (h : LWp G M n c (inBlock id Q) T S) : LWp G M n (.block id c) Q T S := by
  intro m K w a h1 h2 h3
  refine wpIn_block (wpIn_mono (h m K w a h1 h2 h3) fun e a' w' hp => ?_)
  cases e with
  | exit id' =>
    simp only [Exit.inBlock]
    split
    · rename_i he; subst he; exact hp.mono fun T S h => by simpa [inBlock] using h
    · rename_i he; exact hp.mono fun T S h => by simpa [inBlock, he] using h
  | _ => exact hp

theorem LWp.loop {c : Code} (I : Nat → (Nat → TV) → LS → Prop) (k₀ : Nat) (h₀ : I k₀ T S)
    (round : ∀ k T S, I k T S → LWp G M n c (andThen (fun T' S' => ∃ k', k' < k ∧ I k' T' S') Q) T S) : LWp G M n (.loop c) Q T S := by
  intro m K w a h1 h2 h3
  refine wpIn_loop_num (fun k a' w' => Post G m n K w (I k) a' w') k₀ ⟨T, S, K, h1, h2, h3, .refl _ _, h₀⟩ fun k a' w' hp => ?_
  obtain ⟨T', S', K', i1, i2, i3, i4, i5⟩ := hp
  refine wpIn_mono (round k T' S' i5 m K' w' a' i1 i2 i3) fun e a'' w'' hq => ?_
  cases e with
  | normal =>
    obtain ⟨T2, S2, K2, j1, j2, j3, j4, k', hk, j5⟩ := hq
    exact ⟨k', hk, T2, S2, K2, j1, j2, j3, i4.trans j4, j5⟩
  | _ => exact hq.trans i4

theorem LWp.region {id : Nat} {ops : List Oper} (h : LOps G M n ops.toArray ops (Q .normal) T S) : LWp G M n (.region id ops.toArray false) Q T S := by
  intro m K w a h1 h2 h3
  refine wpIn_region_lit (wpListIn_mono (fun e a w hp => ?_) _ _ _ (h m K w a h1 h2 h3))
  obtain ⟨rfl, hp⟩ := hp
  exact hp
end code

/-- The results of a function, out of its slots and its memory. -/
def LRes (G : Ctx) (n : Nat) (fn : Func) (T : Nat → TV) (S : LS) (r : TV) : Prop :=
  ∀ K w a, Inv G S K w → RelT G w K n T a → ∃ v, (results fn a.tmps).run G.P w = .ok v w ∧ RepT G w K r v

theorem LRes.none {G : Ctx} {n : Nat} {fn : Func} {T : Nat → TV} {S : LS} (h : fn.results = #[]) : LRes G n fn T S (.tup []) :=
  fun K w a _ _ => ⟨_, results_none h _ _ _, .tup [] #[] rfl (by simp)⟩

theorem LRes.one {G : Ctx} {n : Nat} {fn : Func} {T : Nat → TV} {S : LS} {t : Tmp} (h : fn.results = #[.tmp t]) : LRes G n fn T S (T t) :=
  fun K w a _ hr => ⟨_, results_tmp h _ _ _, hr.2 t⟩

theorem LRes.two {G : Ctx} {n : Nat} {fn : Func} {T : Nat → TV} {S : LS} {t u : Tmp} (h : fn.results = #[.tmp t, .tmp u]) : LRes G n fn T S (.tup [T t, T u]) :=
  fun K w a _ hr => ⟨_, results_tmp2 h _ _ _, .tup _ _ rfl fun j x v hj hv => by
    match j with
    | 0 =>
      obtain rfl : T t = x := by simpa using hj
      obtain rfl : a.tmps.getD t undef = v := by simpa using hv
      exact hr.2 t
    | 1 =>
      obtain rfl : T u = x := by simpa using hj
      obtain rfl : a.tmps.getD u undef = v := by simpa using hv
      exact hr.2 u
    | j + 2 => simp at hj⟩

/-- Behind the body: the results satisfy what is asked. -/
def LBody (G : Ctx) (n : Nat) (fn : Func) (Q : TV → LS → Prop) : Exit → (Nat → TV) → LS → Prop
  | .normal, T, S => ∃ r, LRes G n fn T S r ∧ Q r S
  | .ret, T, S => ∃ r, LRes G n fn T S r ∧ Q r S
  | _, _, _ => False

def argT (args : List TV) : Nat → TV := fun i => args.getD i .any

theorem Ext.closeMark {K K' : Kept} {w w' : World} {D : Nat} {o : Obj} (h : Ext K w K' w') (hD : w.heap.size ≤ D) (ho : w'.heap[D]? = some (.deferred (some []))) (hk : ∀ j, ¬ K' D j) (hc : o.isCells = false) : Ext K w K' (w'.putObj D o) where
  kept := fun b j hb => by
    obtain ⟨h1, h2⟩ := h.kept b j hb
    refine ⟨h1, ?_⟩
    rw [← h2]
    exact World.cell?_of_block (a := ⟨b, j, none⟩) (World.putObj_heap_other fun e => hk j (by simp only at e; rw [← e]; exact h1))
  shape := fun b s hs => by
    have h1 := h.shape b s hs
    have : b ≠ D := fun e => by subst e; simp [World.shape?, ho] at h1
    simp only [World.shape?, World.putObj_heap_other this] at h1 ⊢
    exact h1
  size := by simpa using h.size
  marks := fun b hb => by
    have : b ≠ D := fun e => by
      subst e
      rw [Array.getElem?_eq_none hD] at hb
      cases hb
    rw [World.putObj_heap_other this]
    exact h.marks b hb

theorem Inv.notMark {G : Ctx} {S : LS} {K : Kept} {w : World} (h : Inv G S K w) {D : Nat} {o : Obj} (ho : w.heap[D]? = some o) (hc : o.isCells = false) (j : Nat) : ¬ K D j := fun hk => by
  obtain ⟨v, hv⟩ := h.live D j hk
  simp only [World.cell?, ho] at hv
  cases o <;> first | (simp at hv; done) | (simp [Obj.isCells] at hc)

/-- What the logical memory says does not hang on a mark. -/
theorem Inv.closeMark {G : Ctx} {S : LS} {K : Kept} {w : World} (h : Inv G S K w) {D : Nat} {o : Obj} (hB : G.base ≤ D) (ho : w.heap[D]? = some (.deferred (some []))) (hc : o.isCells = false) (hsc : G.since K (w.putObj D o)) :
    Inv G S K (w.putObj D o) := by
  have hx : Ext K w K w := .refl _ _
  have hk := h.notMark ho rfl
  have hcell : ∀ b j, K b j → (w.putObj D o).cell? ⟨b, j, none⟩ = w.cell? ⟨b, j, none⟩ := fun b j hb =>
    World.cell?_of_block (a := ⟨b, j, none⟩) (World.putObj_heap_other fun e => hk j (by simp only at e; rw [← e]; exact hb))
  have hother : ∀ b, b ≠ D → (w.putObj D o).heap[b]? = w.heap[b]? := fun b hb => World.putObj_heap_other hb
  have hrep : ∀ {l v}, Rep G w K l v → Rep G (w.putObj D o) K l v := by
    intro l v hr
    induction hr with
    | raw x h1 => exact .raw x h1
    | nil => exact .nil
    | emp a cap => exact .emp a cap
    | row o' es b off cap z c hn hcap hz ho' hc' hr ih =>
      refine .row o' es b off cap z c hn hcap hz ?_ ?_ ih
      · intro b' hb'
        obtain ⟨h1, h2, T, n, h3, h4⟩ := ho' b' hb'
        refine ⟨h1, h2, T, n, ?_, h4⟩
        have : b ≠ D := fun e => by subst e; simp [World.shape?, ho] at h3
        simp only [World.shape?, hother b this] at h3 ⊢
        exact h3
      · intro i j x hx'
        obtain ⟨h1, h2⟩ := hc' i j x hx'
        exact ⟨by rw [hcell _ _ h2]; exact h1, h2⟩
    | ptr l b off c h hr ih => exact .ptr l b off c (fun j x hj => ⟨by rw [hcell _ _ (h j x hj).2]; exact (h j x hj).1, (h j x hj).2⟩) ih
  refine ⟨?_, ?_, fun b j hb => ?_, fun b cs hb => ?_, fun b T n hb => ?_, fun b o' hb => ?_, ?_, hsc⟩
  · exact h.below.trans ⟨rfl, rfl, rfl, by simp, fun k hk' => hother k (by omega)⟩
  · simpa using h.base
  · rw [hcell b j hb]; exact h.live b j hb
  · obtain ⟨h1, h2, c, T, h3, h4, h5, h6⟩ := h.box b cs hb
    have : b ≠ D := fun e => by subst e; rw [ho] at h3; cases h3
    exact ⟨h1, h2, c, T, by rw [hother b this]; exact h3, h4, fun j x v hj hv => hrep (h5 j x v hj hv), h6⟩
  · obtain ⟨h1, h2, h3, c, h4, h5⟩ := h.row b T n hb
    have : b ≠ D := fun e => by subst e; rw [ho] at h4; cases h4
    exact ⟨h1, h2, h3, c, by rw [hother b this]; exact h4, h5⟩
  · obtain ⟨h1, h2, h3, h4, h5⟩ := h.obj b o' hb
    have : b ≠ D := fun e => by subst e; rw [ho] at h3; exact h5 (by simpa using h3.symm)
    exact ⟨h1, h2, by rw [hother b this]; exact h3, h4, h5⟩
  · simpa using h.top

theorem RelT.closeMark {G : Ctx} {S : LS} {K : Kept} {w : World} (h : Inv G S K w) {D : Nat} {o : Obj} (ho : w.heap[D]? = some (.deferred (some []))) (hc : o.isCells = false) {T : Nat → TV} {n : Nat} {a : Act} (hr : RelT G w K n T a) : RelT G (w.putObj D o) K n T a := by
  have hk := h.notMark ho rfl
  have hcell : ∀ b j, K b j → (w.putObj D o).cell? ⟨b, j, none⟩ = w.cell? ⟨b, j, none⟩ := fun b j hb =>
    World.cell?_of_block (a := ⟨b, j, none⟩) (World.putObj_heap_other fun e => hk j (by simp only at e; rw [← e]; exact hb))
  have hsh : ∀ b s, w.shape? b = some s → (w.putObj D o).shape? b = some s := fun b s hs => by
    have : b ≠ D := fun e => by subst e; simp [World.shape?, ho] at hs
    simp only [World.shape?, World.putObj_heap_other this] at hs ⊢
    exact hs
  have hrep : ∀ {l v}, Rep G w K l v → Rep G (w.putObj D o) K l v := by
    intro l v hr
    induction hr with
    | raw x h1 => exact .raw x h1
    | nil => exact .nil
    | emp a cap => exact .emp a cap
    | row o' es b off cap z c hn hcap hz ho' hc' hr ih =>
      refine .row o' es b off cap z c hn hcap hz ?_ ?_ ih
      · intro b' hb'
        obtain ⟨h1, h2, T, n, h3, h4⟩ := ho' b' hb'
        exact ⟨h1, h2, T, n, hsh _ _ h3, h4⟩
      · intro i j x hx'
        obtain ⟨h1, h2⟩ := hc' i j x hx'
        exact ⟨by rw [hcell _ _ h2]; exact h1, h2⟩
    | ptr l b off c h hr ih => exact .ptr l b off c (fun j x hj => ⟨by rw [hcell _ _ (h j x hj).2]; exact (h j x hj).1, (h j x hj).2⟩) ih
  have hrepT : ∀ {l v}, RepT G w K l v → RepT G (w.putObj D o) K l v := by
   intro l v hr
   induction hr with
   | one h => exact .one (hrep h)
   | agg l vs hs h => exact .agg l vs hs fun j x v hj hv => hrep (h j x v hj hv)
   | tup l vs hs h ih => exact .tup l vs hs ih
   | ro l b off c h hr => exact .ro l b off c (fun j x hj => ⟨by rw [hcell _ _ (h j x hj).2]; exact (h j x hj).1, (h j x hj).2⟩) fun j x hj => hrep (hr j x hj)
   | any v => exact .any v
   | when b r v h1 h0 ih => exact .when b r v ih h0
  exact ⟨hr.1, fun i => hrepT (hr.2 i)⟩

/-- Leaving: the marks are taken one behind the other, then the results are read. -/
theorem leaves_of {G : Ctx} {n m : Nat} {fn : Func} {R : Ending → World → Prop} {T : Nat → TV} {S : LS} {K : Kept} {a : Act} {w0 : World} {K0 : Kept} {r : TV} (hbase : G.base ≤ w0.heap.size) (hs0 : G.since K0 w0) (hres : LRes G n fn T S r)
    (hR : ∀ (v : Value) (w' : World), RepT G w' K r v → Inv G S K w' → Ext K0 w0 K w' → R (.returned v) w') :
    ∀ (Ds : List Nat) (w : World), Ds.Nodup → (∀ D ∈ Ds, w0.heap.size ≤ D ∧ w.heap[D]? = some (.deferred (some []))) → Inv G S K w → RelT G w K n T a → Ext K0 w0 K w →
      LeavesInM Fence.wide m G.P fn a.tmps R (Ds.map fun D => { target := .collected D, args := #[] }) .returning w := by
  intro Ds
  induction Ds with
  | nil =>
    intro w _ _ hi hr hx
    obtain ⟨v, h1, h2⟩ := hres K w a hi hr
    exact ⟨v, h1, hR v w h2 hi hx⟩
  | cons D Ds ih =>
    intro w hnd hall hi hr hx
    obtain ⟨h1, h3⟩ := hall D (by simp)
    have h2 := Nat.le_trans hbase h1
    rw [List.nodup_cons] at hnd
    refine ⟨by simp, .inl ⟨D, w.putObj D (.deferred none), rfl, run_takeDeferred h3, ih _ hnd.2 (fun D' hD' => ?_) (hi.closeMark h2 h3 rfl (G.stable _ _ _ _ hs0 (hx.closeMark h1 h3 (hi.notMark h3 rfl) rfl))) (hr.closeMark hi h3 rfl) (hx.closeMark h1 h3 (hi.notMark h3 rfl) rfl)⟩⟩
    obtain ⟨k1, k3⟩ := hall D' (List.mem_cons_of_mem _ hD')
    exact ⟨k1, by rw [World.putObj_heap_other (fun e => by subst e; exact hnd.1 hD')]; exact k3⟩

theorem LCalls.enter {G : Ctx} {f : FuncId} {fn : Func} {c : Code} {args : List TV} {Q : TV → LS → Prop} {S : LS} (hf : G.P.funcs[f]? = some fn) (hb : fn.body = some c)
    (hn : Nat.ble args.length fn.ntmps = true) (h : LWp G none fn.ntmps c (LBody G fn.ntmps fn Q) (argT args) S) : LCalls G f args Q S := by
  intro K w vals h1 h2
  have hn := Nat.le_of_ble_eq_true hn
  refine callsIn_wide (n := 0) |>.1 (callsIn_of_wp_marks hf hb trivial (wpIn_mono (h w.heap.size K w _ h1 ?_ (Marks.nil _)) fun e a' w' hp => ?_) rfl)
  · refine ⟨?_, fun i => ?_⟩
    · have := h2.1
      simp only [Array.size_append, Array.size_replicate]; omega
    · have hs := h2.1
      rw [Array.getD_eq_getD_getElem?]
      by_cases hi : i < vals.size
      · rw [Array.getElem?_append_left hi, Array.getElem?_eq_getElem hi]
        refine h2.2 i _ _ ?_ (Array.getElem?_eq_getElem hi)
        simp only [argT]
        rw [List.getD_eq_getElem?_getD, List.getElem?_eq_getElem (by omega)]
        rfl
      · rw [Array.getElem?_append_right (by omega)]
        have : (argT args) i = .any := by
          simp only [argT]
          rw [List.getD_eq_getElem?_getD, List.getElem?_eq_none (by omega)]
          rfl
        rw [this]
        exact .any _
  · obtain ⟨T', S', K', i1, i2, i3, i4, i5⟩ := hp
    obtain ⟨_, Ds, d1, d2, d3⟩ := i3
    have key : ∀ r, LRes G fn.ntmps fn T' S' r → Q r S' → LeavesInM Fence.wide 0 G.P fn a'.tmps (fun e w' => ∃ r v S' K', e = .returned v ∧ RepT G w' K' r v ∧ Inv G S' K' w' ∧ Ext K w K' w' ∧ Q r S') a'.defers .returning w' := by
      intro r hr hq
      rw [d1]
      exact leaves_of h1.base h1.since hr (fun v w2 hrep hi hx => ⟨r, v, S', K', rfl, hrep, hi, hx, hq⟩) Ds w' d2 d3 i1 i2 i4
    cases e with
    | normal =>
      obtain ⟨r, hr, hq⟩ := i5
      exact key r hr hq
    | ret =>
      obtain ⟨r, hr, hq⟩ := i5
      exact key r hr hq
    | _ => exact i5.elim

/-- Slots that a relation names: the others are whatever they are. -/
def over (T : Nat → TV) : List (Nat × TV) → Nat → TV
  | [], i => T i
  | (d, r) :: l, i => bif Nat.beq i d then r else over T l i

theorem over_self (T : Nat → TV) : ∀ (l : List (Nat × TV)), (∀ d r, (d, r) ∈ l → T d = r) → over T l = T := by
  intro l
  induction l with
  | nil => intro _; rfl
  | cons x l ih =>
    intro h
    obtain ⟨d, r⟩ := x
    funext i
    simp only [over]
    cases hb : Nat.beq i d with
    | true =>
      have : i = d := Nat.eq_of_beq_eq_true hb
      subst this
      exact (h i r (by simp)).symm
    | false =>
      simp only [cond_false]
      exact congrFun (ih fun d r hm => h d r (List.mem_cons_of_mem _ hm)) i

/-- The slots hold what the list says. -/
def holds (T : Nat → TV) : List (Nat × TV) → Prop
  | [] => True
  | (d, r) :: l => T d = r ∧ holds T l

theorem holds.over {T : Nat → TV} : ∀ {l : List (Nat × TV)}, holds T l → T = over T l := by
  intro l h
  refine (over_self T l ?_).symm
  induction l with
  | nil => simp
  | cons x l ih =>
    intro d r hm
    rcases List.mem_cons.1 hm with rfl | hm
    · exact h.1
    · exact ih h.2 d r hm

def Slots (l : List (Nat × TV)) (T : Nat → TV) : Prop := ∀ d r, (d, r) ∈ l → T d = r

end Go.Proofs.Ytkjbdldjfjkneaa.LF
