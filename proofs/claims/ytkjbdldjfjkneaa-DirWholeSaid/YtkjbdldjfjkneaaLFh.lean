/- The frame's results of functions; slices of slices and of strings; parts of arrays. -/
import Derived.Test.YtkjbdldjfjkneaaLFg
set_option linter.unusedVariables false
set_option linter.unusedSimpArgs false
namespace Go.Proofs.Ytkjbdldjfjkneaa.LF
open Go.RowKit

/-- A result variable's value. -/
inductive RV (G : Ctx) (T : Nat → TV) (S : LS) : ResultVar → TV → Prop
  | tmp (t : Tmp) : RV G T S (.tmp t) (T t)
  | cell {a : Tmp} {ty : TypeId} {b off : Nat} {cs : List LV} {i : TI} {r : TV} (ha : T a = .one (.v (.pointer (some ⟨b, off, none⟩)))) (hb : S.box b = some cs) (hi : TIok G.P ty i) (hr : readT i (cs.drop off) = some r) : RV G T S (.cell a ty) r

/-- A result variable, as 'results' reads it. -/
def rvVal (tmps : Array Value) : ResultVar → Sem Value
  | .tmp t => pure (tmps.getD t undef)
  | .cell p t => do loadVar t (← asAddr (tmps.getD p undef))

theorem results_eq (fn : Func) (tmps : Array Value) : results fn tmps = (do let vs ← fn.results.mapM (rvVal tmps); pure (if h : vs.size = 1 then vs[0] else .tuple vs)) := rfl

inductive RVs (G : Ctx) (T : Nat → TV) (S : LS) : List ResultVar → List TV → Prop
  | nil : RVs G T S [] []
  | cons {v : ResultVar} {r : TV} {vs : List ResultVar} {rs : List TV} (h : RV G T S v r) (k : RVs G T S vs rs) : RVs G T S (v :: vs) (r :: rs)

theorem RV.run {G : Ctx} {T : Nat → TV} {S : LS} {v : ResultVar} {r : TV} (h : RV G T S v r) {K : Kept} {w : World} {n : Nat} {a : Act} (hi : Inv G S K w) (hr : RelT G w K n T a) :
    ∃ u, (rvVal a.tmps v).run G.P w = .ok u w ∧ RepT G w K r u := by
  cases h with
  | tmp t => exact ⟨_, rfl, hr.2 t⟩
  | @cell p ty b off cs i r ha hb ht hrd =>
    have h1 := hr.2 p
    rw [ha] at h1
    obtain ⟨c, T', e1, e2, e3⟩ := hi.cells hb
    obtain ⟨u, hl, hru⟩ := RepT.load (G := G) (K := K) (w := w) ht (b := b) (off := off) (c := fun j => c.getD (off + j) undef) (l := cs.drop off) (fun j x hj => by
        rw [List.getElem?_drop] at hj
        obtain ⟨v, h1, h2, _⟩ := e3 _ _ hj
        rw [h2, Array.getD_eq_getD_getElem?, h1]; rfl) (fun j x hj => by
        rw [List.getElem?_drop] at hj
        obtain ⟨v, h1, _, h2⟩ := e3 _ _ hj
        rw [Array.getD_eq_getD_getElem?, h1]; exact h2) hrd
    refine ⟨u, ?_, hru⟩
    simp only [rvVal, h1.flat, Sem.run_bind, asAddr, Sem.run_pure, Result.andThen_ok, hl]

theorem RVs.run {G : Ctx} {T : Nat → TV} {S : LS} {K : Kept} {w : World} {n : Nat} {a : Act} (hi : Inv G S K w) (hr : RelT G w K n T a) : ∀ {vs : List ResultVar} {rs : List TV}, RVs G T S vs rs →
    ∃ us : List Value, (vs.mapM (rvVal a.tmps) : Sem (List Value)).run G.P w = .ok us w ∧ us.length = rs.length ∧ ∀ (j : Nat) x v, rs[j]? = some x → us[j]? = some v → RepT G w K x v := by
  intro vs rs h
  induction h with
  | nil => exact ⟨[], by simp, rfl, by simp⟩
  | @cons v r vs rs h k ih =>
    obtain ⟨u, h1, h2⟩ := h.run hi hr
    obtain ⟨us, h3, h4, h5⟩ := ih
    refine ⟨u :: us, ?_, by simp [h4], fun j x y hj hy => ?_⟩
    · simp only [List.mapM_cons, Sem.run_bind, h1, Result.andThen_ok, h3, Sem.run_pure]
    · cases j with
      | zero =>
        obtain rfl : r = x := by simpa using hj
        obtain rfl : u = y := by simpa using hy
        exact h2
      | succ j => exact h5 j x y (by simpa using hj) (by simpa using hy)

theorem LRes.many {G : Ctx} {n : Nat} {fn : Func} {T : Nat → TV} {S : LS} {vs : List ResultVar} {rs : List TV} (h : fn.results = vs.toArray) (hn : Nat.beq vs.length 1 = false) (hv : RVs G T S vs rs) : LRes G n fn T S (.tup rs) :=
  fun K w a hi hr => by
    obtain ⟨us, h1, h2, h3⟩ := hv.run hi hr
    have hlen : us.length = vs.length := by
      rw [h2]
      clear h1 h2 h3 hn h
      induction hv with
      | nil => rfl
      | cons _ _ ih => simp [ih]
    have hne : us.length ≠ 1 := fun e => by rw [hlen] at e; rw [e] at hn; exact absurd hn (by decide)
    refine ⟨.tuple us.toArray, ?_, .tup rs us.toArray (by simpa using h2) (fun j x v hj hv' => h3 j x v hj (by simpa using hv'))⟩
    rw [results_eq, h, Array.mapM_eq_mapM_toList]
    simp only [Sem.run_bind, Sem.run_map, h1]
    simp [hne]

theorem LRes.cell {G : Ctx} {n : Nat} {fn : Func} {T : Nat → TV} {S : LS} {a : Tmp} {ty : TypeId} {r : TV} (h : fn.results = #[.cell a ty]) (hv : RV G T S (.cell a ty) r) : LRes G n fn T S r :=
  fun K w ac hi hr => by
    obtain ⟨u, h1, h2⟩ := hv.run hi hr
    refine ⟨u, ?_, h2⟩
    rw [results_eq, h, Array.mapM_eq_mapM_toList]
    simp [h1]

theorem LRes.sh {G : Ctx} {n : Nat} {fn : Func} {T : Nat → TV} {S : LS} {r : TV} (h : LRes G n fn T S r) : LRes G n fn T S (shTV r) :=
  fun K w a hi hr => by obtain ⟨v, h1, h2⟩ := h K w a hi hr; exact ⟨v, h1, h2.shTV⟩

theorem run_sliceBound {P : Program} {w : World} {k : IntKind} {n : Int} {y : Nat} {c : BoundsCode} (h0 : 0 ≤ n) (h1 : n ≤ y) : (Instr.sliceBound (.int k n) y c).run P w = .ok n.toNat w := by
  simp [Instr.sliceBound, asIntOf, h0, h1]

/-- The bounds of a slice expression, as numbers. -/
def bnd (T : Nat → TV) (d : Int) : Option Operand → Option Int
  | none => some d
  | some x => match lev T x with
    | .one (.v (.int _ n)) => some n
    | _ => none

theorem bnd_spec {G : Ctx} {w : World} {K : Kept} {T : Nat → TV} {a : Act} {x : Operand} {d n : Int} (hr : RepT G w K (lev T x) (a.eval x)) (h : bnd T d (some x) = some n) : ∃ k, a.eval x = .int k n := by
  simp only [bnd] at h
  split at h
  · rename_i k m hl
    rw [hl] at hr
    obtain rfl : m = n := by simpa using h
    exact ⟨k, hr.flat⟩
  · cases h

theorem run_bounds {G : Ctx} {w : World} {K : Kept} {T : Nat → TV} {a : Act} {lo hi : Option Operand} {l h : Int} {isS : Bool} {len cap : Nat} (hlo : ∀ x, lo = some x → RepT G w K (lev T x) (a.eval x)) (hhi : ∀ x, hi = some x → RepT G w K (lev T x) (a.eval x))
    (el : bnd T 0 lo = some l) (eh : bnd T len hi = some h) (h0 : 0 ≤ l) (h1 : l ≤ h) (h2 : h ≤ cap) :
    (Instr.sliceBounds isS len cap (lo.map a.eval) (hi.map a.eval) none).run G.P w = .ok (l.toNat, h.toNat, cap) w := by
  unfold Instr.sliceBounds
  cases hi with
  | none =>
    obtain rfl : (len : Int) = h := by simpa [bnd] using eh
    cases lo with
    | none =>
      obtain rfl : (0 : Int) = l := by simpa [bnd] using el
      simp
    | some x =>
      obtain ⟨k, hk⟩ := bnd_spec (hlo x rfl) el
      have := run_sliceBound (P := G.P) (w := w) (k := k) (c := .sliceB) (y := len) h0 h1
      simp [hk, this]
  | some y =>
    obtain ⟨k', hk'⟩ := bnd_spec (hhi y rfl) eh
    have b1 : ∀ c, (Instr.sliceBound (.int k' h) cap c).run G.P w = .ok h.toNat w := fun c => run_sliceBound (by omega) h2
    cases lo with
    | none =>
      obtain rfl : (0 : Int) = l := by simpa [bnd] using el
      simp [hk', b1]
    | some x =>
      obtain ⟨k, hk⟩ := bnd_spec (hlo x rfl) el
      have := run_sliceBound (P := G.P) (w := w) (k := k) (c := .sliceB) (y := h.toNat) h0 (by omega)
      simp [hk, hk', b1, this]

theorem sliceAt_slice {P : Program} {w : World} {t e : TypeId} (h : P.underlying t = some (.slice e)) (x : Value) (lo hi mx : Option Value) : (Instr.sliceAt t x lo hi mx).run P w = (Instr.slice t x lo hi mx).run P w := by
  simp [Instr.sliceAt, run_underlying h]

/-- A part of a slice whose cells stay. -/
theorem LVal.sliceSl {G : Ctx} {D : Tab} (hD : TabOK G.P D) {o : Oper} {T : Nat → TV} {S : LS} {t e : TypeId} {x : Operand} {lo hi : Option Operand} {w0 : Own} {es : List (List LV)} {l h : Int} {i j : TI} (ho : o.op = .slice t x lo hi none)
    (hx : lev T x = .one (.sl w0 es)) (hi' : D.get t = some i) (hd : i.desc = .slice e) (hj : D.get e = some j) (el : bnd T 0 lo = some l) (eh : bnd T es.length hi = some h) (h0 : 0 ≤ l) (h1 : l ≤ h) (h2 : h ≤ es.length) (hsz0 : Nat.blt 0 j.size = true) (hsz : ∀ c ∈ es, c.length = j.size) :
    LVal G o T S (.one (.sl .sh ((es.drop l.toNat).take (h - l).toNat))) :=
  .of_run fun K w ac hi'' hr => by
    have r1 := hr x (by rw [ho]; simp [Op.operands])
    rw [hx] at r1
    have e1 := (hD.get hi').und
    rw [hd] at e1
    have rlo : ∀ x, lo = some x → RepT G w K (lev T x) (ac.eval x) := fun x hx => hr x (by rw [ho, hx]; simp [Op.operands])
    have rhi : ∀ x, hi = some x → RepT G w K (lev T x) (ac.eval x) := fun x hx => hr x (by rw [ho, hx]; simp [Op.operands])
    have hex : ∀ v, (Instr.slice t (ac.eval x) (lo.map ac.eval) (hi.map ac.eval) none).run G.P w = .ok v w → (execOp ac.eval o).run G.P w = .ok (.value v) w := fun v h => by
      have h3 := sliceAt_slice (w := w) e1 (ac.eval x) (lo.map ac.eval) (hi.map ac.eval) none
      simp only [execOp, ho, Sem.run_bind, Option.map_none, h3, h, Result.andThen_ok, Sem.run_pure]
    have r2 := r1.of_one
    by_cases hne : es = []
    · subst hne
      have hl : l = 0 ∧ h = 0 := by simp at h2; omega
      obtain ⟨rfl, rfl⟩ := hl
      have hv : ∃ a cap, ac.eval x = .slice a 0 cap := by
        generalize ac.eval x = v at r2
        cases r2 with
        | nil => exact ⟨none, 0, rfl⟩
        | emp a cap => exact ⟨a, cap, rfl⟩
        | row _ _ b off cap z c => exact ⟨_, _, rfl⟩
      obtain ⟨a, cap, hv⟩ := hv
      have hb := run_bounds (isS := true) (cap := cap) rlo rhi el eh (by omega) (by omega) (by omega)
      refine ⟨.slice (if cap = 0 then a else a.map (·.add 0)) 0 cap, hex _ ?_, .one (by simpa using Rep.emp _ _)⟩
      simp only [List.length_nil] at hb
      simp [hv, Instr.slice, run_underlying e1, hb, run_sizeOf' (hD.get hj)]
    · have hsz' : 0 < j.size := by simpa [Nat.blt_eq] using hsz0
      obtain ⟨b, off, cap, vs, f1, f2, f3, f4, f5⟩ := r2.flat hsz' hsz hne
      have hb := run_bounds (isS := true) (cap := cap) rlo rhi el eh h0 h1 (by omega)
      obtain ⟨l', rfl⟩ : ∃ l' : Nat, l = l' := ⟨l.toNat, by omega⟩
      obtain ⟨h', rfl⟩ : ∃ h' : Nat, h = h' := ⟨h.toNat, by omega⟩
      have e0 : ((h' : Int) - (l' : Int)).toNat = h' - l' := by omega
      rw [e0, Int.toNat_natCast]
      have hlen : ((es.drop l').take (h' - l')).length = h' - l' := by simp; omega
      refine ⟨.slice (if cap = l' then some ⟨b, off, none⟩ else some ⟨b, off + l' * j.size, none⟩) (h' - l') (cap - l'), hex _ ?_, .one ?_⟩
      · simp only [f1, Instr.slice, Sem.run_bind, run_underlying e1, Result.andThen_ok, hb, run_sizeOf' (hD.get hj), Sem.run_pure, Int.toNat_natCast, Option.map_some, add_off]
      · by_cases hc : cap = l'
        · rw [if_pos hc]
          have : (es.drop l').take (h' - l') = [] := List.length_eq_zero_iff.1 (by omega)
          rw [this]
          rw [show h' - l' = 0 by omega]
          exact .emp _ _
        · rw [if_neg hc]
          have hfl : Flat G w K j.size ((es.drop l').take (h' - l')) ((vs.drop (l' * j.size)).take ((h' - l') * j.size)) := by
            refine ⟨?_, fun e he => hsz e (List.mem_of_mem_drop (List.mem_of_mem_take he)), fun p q x hp => ?_⟩
            · rw [hlen, List.length_take, List.length_drop, f3.len]
              apply Nat.min_eq_left
              rw [← Nat.sub_mul]
              exact Nat.mul_le_mul_right _ (by omega)
            · have heach : ∀ e ∈ (es.drop l').take (h' - l'), e.length = j.size := fun e he => hsz e (List.mem_of_mem_drop (List.mem_of_mem_take he))
              obtain ⟨c1, c2⟩ := cellOf_lt heach hp
              rw [hlen] at c1
              have hp' : cellOf es (l' + p) q = some x := by
                unfold cellOf at hp ⊢
                rw [List.getElem?_take, if_pos c1, List.getElem?_drop] at hp
                exact hp
              obtain ⟨v, g1, g2⟩ := f3.rep _ _ x hp'
              refine ⟨v, ?_, g2⟩
              rw [List.getElem?_take, if_pos (lt_mul c1 c2), List.getElem?_drop]
              rw [Nat.add_mul, Nat.add_assoc] at g1
              exact g1
          have := Rep.ofFlat (o := .sh) (b := b) (off := off + l' * j.size) (cap := cap - l') hfl (by simp) (by omega) (fun q u hq => by
            rw [List.getElem?_take] at hq
            split at hq
            · rw [List.getElem?_drop] at hq
              have := f4 _ u hq
              rw [← Nat.add_assoc] at this
              exact this
            · cases hq) (by simp)
          rw [hlen] at this
          exact this

/-- A part of a string. -/
theorem LVal.sliceStr {G : Ctx} {D : Tab} (hD : TabOK G.P D) {o : Oper} {T : Nat → TV} {S : LS} {t : TypeId} {x : Operand} {lo hi : Option Operand} {s : ByteArray} {l h : Int} {i : TI} (ho : o.op = .slice t x lo hi none)
    (hx : lev T x = .one (.v (.string s))) (hi' : D.get t = some i) (hd : i.desc = .string) (el : bnd T 0 lo = some l) (eh : bnd T s.size hi = some h) (h0 : 0 ≤ l) (h1 : l ≤ h) (h2 : h ≤ s.size) :
    LVal G o T S (.one (.v (.string (s.extract l.toNat h.toNat)))) :=
  .of_run fun K w ac hi'' hr => by
    have r1 := hr x (by rw [ho]; simp [Op.operands])
    rw [hx] at r1
    have e1 := (hD.get hi').und
    rw [hd] at e1
    have rlo : ∀ x, lo = some x → RepT G w K (lev T x) (ac.eval x) := fun x hx => hr x (by rw [ho, hx]; simp [Op.operands])
    have rhi : ∀ x, hi = some x → RepT G w K (lev T x) (ac.eval x) := fun x hx => hr x (by rw [ho, hx]; simp [Op.operands])
    have hb := run_bounds (isS := false) (cap := s.size) rlo rhi el eh h0 h1 h2
    refine ⟨_, ?_, .raw rfl⟩
    simp [execOp, ho, r1.flat, Instr.sliceAt, Instr.slice, run_underlying e1, hb]

end Go.Proofs.Ytkjbdldjfjkneaa.LF
