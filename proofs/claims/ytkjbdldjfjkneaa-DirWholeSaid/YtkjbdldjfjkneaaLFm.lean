/- The frame's operations once more, in the form in which walks ask for them. -/
import Derived.Test.YtkjbdldjfjkneaaLFi
import Derived.Test.YtkjbdldjfjkneaaLFl
import Derived.Test.YtkjbdldjfjkneaaLFk
set_option linter.unusedVariables false
set_option linter.unusedSimpArgs false
namespace Go.Proofs.Ytkjbdldjfjkneaa.LF
open Go.RowKit

/-- An empty slice literal of the call's own. -/
theorem LDo.emptySlice {G : Ctx} {D : Tab} (hD : TabOK G.P D) {o : Oper} {T : Nat → TV} {S : LS} {t e : TypeId} {i j : TI} (ho : o.op = .buildSlice t 0 #[])
    (hi : D.get t = some i) (hd : i.desc = .slice e) (hj : D.get e = some j) (hsz : Nat.blt 0 j.size = true) (hzs : j.zero.cells.size = j.size) (hz : j.zero.cells.toList.all Value.oneCell' = true) :
    LDo G o T S (fun r S' => ∃ b, S.fresh b ∧ r = .one (.sl (.own b) []) ∧ S' = S.newRow b e 0) :=
  LDo.buildSlice hD (ps := []) (lp := []) (l := sliceZero j 0) ho rfl hi hd hj hsz hzs hz (by rw [Nat.zero_mul]; rfl) rfl

/-- A slice literal of one element, the call's own. -/
theorem LDo.oneSlice {G : Ctx} {D : Tab} (hD : TabOK G.P D) {o : Oper} {T : Nat → TV} {S : LS} {t e : TypeId} {x : Operand} {c : List LV} {i j : TI} (ho : o.op = .buildSlice t 1 #[(0, x)])
    (hx : tcells (lev T x) = some c) (hi : D.get t = some i) (hd : i.desc = .slice e) (hj : D.get e = some j) (hc : Nat.beq c.length j.size = true) (hsz : Nat.blt 0 j.size = true) (hzs : j.zero.cells.size = j.size) (hz : j.zero.cells.toList.all Value.oneCell' = true) (hbig : Nat.ble j.size 16777216 = true) :
    LDo G o T S (fun r S' => ∃ b, S.fresh b ∧ r = .one (.sl (.own b) [c]) ∧ S' = S.newRow b e 1) := by
  have hcl : c.length = j.size := Nat.eq_of_beq_eq_true hc
  have hzl : (sliceZero j 1).length = j.size := by simp [sliceZero]
  have h := LDo.buildSlice (T := T) (S := S) hD (ps := [(0, x)]) ho (lp := [(0, c)]) (by simp only [lparts, hx]) hi hd hj hsz hzs hz (by rw [Nat.one_mul]; exact hbig) (l := splice (sliceZero j 1) 0 c) (by
    simp only [lfill, Nat.zero_mul, Nat.zero_add]
    have h1 : Nat.ble c.length (sliceZero j 1).length = true := by rw [hzl, hcl]; exact Nat.ble_eq_true_of_le (Nat.le_refl _)
    rw [hc, h1]; rfl)
  have e1 : splice (sliceZero j 1) 0 c = c := by
    unfold splice
    rw [List.drop_eq_nil_of_le (by omega)]; simp
  rw [e1] at h
  have e2 : chunks j.size c 1 = [c] := by
    simp only [chunks]
    rw [List.take_of_length_le (by omega)]
  rw [e2] at h
  exact h

/-- append, by lengths. -/
theorem LDo.appendN {G : Ctx} {D : Tab} (hD : TabOK G.P D) {o : Oper} {T : Nat → TV} {S : LS} {t e : TypeId} {s x : Operand} {o1 o2 : Own} {es news : List (List LV)} {i j : TI}
    (ho : o.op = .call { callee := .builtin .append, args := #[s, x], argTypes := #[t, t] }) (hs : lev T s = .one (.sl o1 es)) (hx : lev T x = .one (.sl o2 news)) (hi : D.get t = some i) (hd : i.desc = .slice e) (hj : D.get e = some j)
    (hsz : Nat.blt 0 j.size = true) (hzs : j.zero.cells.size = j.size) (hby : Nat.ble j.bytes 1024 = true) {n m : Nat} (hn : es.length = n) (hm : news.length = m) (hown : Owned S e n o1) (hnz : ∀ c ∈ news, c.length = j.size) (hl : n + m ≤ 100000000) :
    LDo G o T S (fun r S' => ∃ o', r = .one (.sl o' (es ++ news)) ∧ Owned S' e (n + m) o' ∧ S.upto o1 S' ∧ ∀ b, o' = .own b → o1 = .own b ∨ S.fresh b) := by
  subst hn; subst hm
  have h1 : (es.length + news.length) * j.bytes ≤ 100000000 * 1024 := Nat.mul_le_mul hl (Nat.le_of_ble_eq_true hby)
  exact LDo.append hD ho hs hx hi hd hj hsz hzs hown hnz (by unfold maxLen; omega) (by omega)

/-- append of one element, by lengths. -/
theorem LDo.push {G : Ctx} {D : Tab} (hD : TabOK G.P D) {o : Oper} {T : Nat → TV} {S : LS} {t e : TypeId} {s x : Operand} {o1 o2 : Own} {es : List (List LV)} {c : List LV} {i j : TI}
    (ho : o.op = .call { callee := .builtin .append, args := #[s, x], argTypes := #[t, t] }) (hs : lev T s = .one (.sl o1 es)) (hx : lev T x = .one (.sl o2 [c])) (hi : D.get t = some i) (hd : i.desc = .slice e) (hj : D.get e = some j)
    (hsz : Nat.blt 0 j.size = true) (hzs : j.zero.cells.size = j.size) (hby : Nat.ble j.bytes 1024 = true) (hc : Nat.beq c.length j.size = true) {n : Nat} (hn : es.length = n) (hown : Owned S e n o1) (hl : n ≤ 90000000) :
    LDo G o T S (fun r S' => ∃ o', r = .one (.sl o' (es ++ [c])) ∧ Owned S' e (n + 1) o' ∧ S.upto o1 S' ∧ ∀ b, o' = .own b → o1 = .own b ∨ S.fresh b) :=
  LDo.appendN hD ho hs hx hi hd hj hsz hzs hby hn rfl hown (by simpa using Nat.eq_of_beq_eq_true hc) (by omega)

theorem LVal.addU64 {G : Ctx} {o : Oper} {T : Nat → TV} {S : LS} {t u : TypeId} {x y : Operand} {a b : Int} (ho : o.op = .binOp .add t x y u)
    (hx : lev T x = .one (.v (.int .u64 a))) (hy : lev T y = .one (.v (.int .u64 b))) (h : 0 ≤ a + b ∧ a + b ≤ 18446744073709551615) : LVal G o T S (.one (.v (.int .u64 (a + b)))) := by
  have := LVal.binOp (G := G) (S := S) (D := []) (fun _ h => by cases h) ho hx hy (v := .int .u64 (IntKind.u64.wrap (a + b))) rfl
  rw [IntWalk.u64_in _ (by omega)] at this
  exact this
theorem LVal.subU64 {G : Ctx} {o : Oper} {T : Nat → TV} {S : LS} {t u : TypeId} {x y : Operand} {a b : Int} (ho : o.op = .binOp .sub t x y u)
    (hx : lev T x = .one (.v (.int .u64 a))) (hy : lev T y = .one (.v (.int .u64 b))) (h : 0 ≤ a - b ∧ a - b ≤ 18446744073709551615) : LVal G o T S (.one (.v (.int .u64 (a - b)))) := by
  have := LVal.binOp (G := G) (S := S) (D := []) (fun _ h => by cases h) ho hx hy (v := .int .u64 (IntKind.u64.wrap (a - b))) rfl
  rw [IntWalk.u64_in _ (by omega)] at this
  exact this
theorem LVal.mulU64 {G : Ctx} {o : Oper} {T : Nat → TV} {S : LS} {t u : TypeId} {x y : Operand} {a b : Int} (ho : o.op = .binOp .mul t x y u)
    (hx : lev T x = .one (.v (.int .u64 a))) (hy : lev T y = .one (.v (.int .u64 b))) (h : 0 ≤ a * b ∧ a * b ≤ 18446744073709551615) : LVal G o T S (.one (.v (.int .u64 (a * b)))) := by
  have := LVal.binOp (G := G) (S := S) (D := []) (fun _ h => by cases h) ho hx hy (v := .int .u64 (IntKind.u64.wrap (a * b))) rfl
  rw [IntWalk.u64_in _ (by omega)] at this
  exact this

/-- Parts of a row, by numbers. -/
theorem LVal.cutMap {G : Ctx} {D : Tab} (hD : TabOK G.P D) {o : Oper} {T : Nat → TV} {S : LS} {t e : TypeId} {x lo hi : Operand} {w0 : Own} {α : Type} {xs : List α} {f : α → List LV} {k k' : IntKind} {m n : Nat} {i j : TI} (ho : o.op = .slice t x (some lo) (some hi) none)
    (hx : lev T x = .one (.sl w0 (xs.map f))) (hlo : lev T lo = .one (.v (.int k (m : Int)))) (hhi : lev T hi = .one (.v (.int k' (n : Int)))) (hi' : D.get t = some i) (hd : i.desc = .slice e) (hj : D.get e = some j) (h1 : m ≤ n) (h2 : n ≤ xs.length) (hsz0 : Nat.blt 0 j.size = true) (hsz : ∀ c ∈ xs, (f c).length = j.size) :
    LVal G o T S (.one (.sl .sh (((xs.drop m).take (n - m)).map f))) := by
  have := LVal.sliceSl (S := S) hD ho hx hi' hd hj (l := (m : Int)) (h := (n : Int)) (by simp [bnd, hlo]) (by simp [bnd, hhi]) (by omega) (by omega) (by simp; omega) hsz0 (fun c hc => by
    obtain ⟨a, ha, rfl⟩ := List.mem_map.1 hc; exact hsz a ha)
  rw [show ((n : Int) - (m : Int)).toNat = n - m by omega, Int.toNat_natCast, ← List.map_drop, ← List.map_take] at this
  exact this
theorem LVal.takeMap {G : Ctx} {D : Tab} (hD : TabOK G.P D) {o : Oper} {T : Nat → TV} {S : LS} {t e : TypeId} {x hi : Operand} {w0 : Own} {α : Type} {xs : List α} {f : α → List LV} {k : IntKind} {n : Nat} {i j : TI} (ho : o.op = .slice t x none (some hi) none)
    (hx : lev T x = .one (.sl w0 (xs.map f))) (hhi : lev T hi = .one (.v (.int k (n : Int)))) (hi' : D.get t = some i) (hd : i.desc = .slice e) (hj : D.get e = some j) (h2 : n ≤ xs.length) (hsz0 : Nat.blt 0 j.size = true) (hsz : ∀ c ∈ xs, (f c).length = j.size) :
    LVal G o T S (.one (.sl .sh ((xs.take n).map f))) := by
  have := LVal.sliceSl (S := S) hD ho hx hi' hd hj (l := 0) (h := (n : Int)) rfl (by simp [bnd, hhi]) (by omega) (by omega) (by simp; omega) hsz0 (fun c hc => by
    obtain ⟨a, ha, rfl⟩ := List.mem_map.1 hc; exact hsz a ha)
  rw [show ((n : Int) - 0).toNat = n by omega, show (0 : Int).toNat = 0 from rfl, List.drop_zero, ← List.map_take] at this
  exact this
theorem LVal.dropMap {G : Ctx} {D : Tab} (hD : TabOK G.P D) {o : Oper} {T : Nat → TV} {S : LS} {t e : TypeId} {x lo : Operand} {w0 : Own} {α : Type} {xs : List α} {f : α → List LV} {k : IntKind} {m : Nat} {i j : TI} (ho : o.op = .slice t x (some lo) none none)
    (hx : lev T x = .one (.sl w0 (xs.map f))) (hlo : lev T lo = .one (.v (.int k (m : Int)))) (hi' : D.get t = some i) (hd : i.desc = .slice e) (hj : D.get e = some j) (h2 : m ≤ xs.length) (hsz0 : Nat.blt 0 j.size = true) (hsz : ∀ c ∈ xs, (f c).length = j.size) :
    LVal G o T S (.one (.sl .sh ((xs.drop m).map f))) := by
  have := LVal.sliceSl (S := S) hD ho hx hi' hd hj (l := (m : Int)) (h := ((xs.map f).length : Int)) (by simp [bnd, hlo]) rfl (by omega) (by simp; omega) (by omega) hsz0 (fun c hc => by
    obtain ⟨a, ha, rfl⟩ := List.mem_map.1 hc; exact hsz a ha)
  rw [Int.toNat_natCast, List.take_of_length_le (by simp), ← List.map_drop] at this
  exact this
/-- A part from a number of the text on. -/
theorem LVal.dropLit {G : Ctx} {D : Tab} (hD : TabOK G.P D) {o : Oper} {T : Nat → TV} {S : LS} {t e : TypeId} {x lo : Operand} {w0 : Own} {α : Type} {xs : List α} {f : α → List LV} {k : IntKind} {z : Int} {m : Nat} {i j : TI} (ho : o.op = .slice t x (some lo) none none)
    (hx : lev T x = .one (.sl w0 (xs.map f))) (hlo : lev T lo = .one (.v (.int k z))) (hz : z = (m : Int)) (hi' : D.get t = some i) (hd : i.desc = .slice e) (hj : D.get e = some j) (h2 : m ≤ xs.length) (hsz0 : Nat.blt 0 j.size = true) (hsz : ∀ c ∈ xs, (f c).length = j.size) :
    LVal G o T S (.one (.sl .sh ((xs.drop m).map f))) := .dropMap hD ho hx (hz ▸ hlo) hi' hd hj h2 hsz0 hsz
/-- An element at a number of the text. -/
theorem LVal.indexLit {G : Ctx} {D : Tab} (hD : TabOK G.P D) {o : Oper} {T : Nat → TV} {S : LS} {t e : TypeId} {x ix : Operand} {w : Own} {α : Type} {xs : List α} {f : α → List LV} {k : IntKind} {z : Int} {n : Nat} {i j : TI} (ho : o.op = .indexAddr t x ix)
    (hx : lev T x = .one (.sl w (xs.map f))) (hix : lev T ix = .one (.v (.int k z))) (hz : z = (n : Int)) (hi : D.get t = some i) (hd : i.desc = .slice e) (hj : D.get e = some j) {a : α} (hn : xs[n]? = some a) (hsz : (f a).length = j.size) :
    LVal G o T S (.ro (f a)) := by
  subst hz
  exact .indexSl hD ho hx hix hi hd hj (by omega) (by simp [hn]) hsz

theorem LVal.makeFunc {G : Ctx} {o : Oper} {T : Nat → TV} {S : LS} {fn : Fn} {xs : List Operand} {vs : List Value} (ho : o.op = .makeFunc fn #[] xs.toArray) (hx : xs.map (lev T) = vs.map fun v => .one (.v v)) :
    LVal G o T S (.one (.v (.func fn #[] vs.toArray))) :=
  .of_run fun K w ac hi hr => by
    have e : xs.map ac.eval = vs := by
      have hl : xs.length = vs.length := by have := congrArg List.length hx; simpa using this
      refine List.ext_getElem (by simpa using hl) fun i h1 h2 => ?_
      have h3 : xs[i] ∈ o.op.operands := by rw [ho]; simp [Op.operands]
      have h4 := hr _ h3
      have h5 : lev T xs[i] = .one (.v vs[i]) := by
        have h6 := congrArg (·[i]?) hx
        simp only [List.getElem?_map] at h6
        rw [List.getElem?_eq_getElem (by simpa using h1), List.getElem?_eq_getElem h2] at h6
        simpa using h6
      rw [h5] at h4
      simpa using h4.flat
    refine ⟨.func fn #[] (xs.map ac.eval).toArray, ?_, by rw [e]; exact .raw rfl⟩
    simp [execOp, ho, Instr.makeFunc]

/-- Equal numbers, strings, truth values do not differ. -/
theorem LVal.neqSame {G : Ctx} {D : Tab} (hD : TabOK G.P D) {o : Oper} {T : Nat → TV} {S : LS} {t u : TypeId} {x y : Operand} {k : IntKind} {a : Int} (ho : o.op = .binOp .neq t x y u)
    (hx : lev T x = .one (.v (.int k a))) (hy : lev T y = .one (.v (.int k a))) : LVal G o T S (.one (.v (.bool false))) :=
  LVal.binOp hD ho hx hy (by simp [lbin, lint])
theorem LVal.neqSameB {G : Ctx} {D : Tab} (hD : TabOK G.P D) {o : Oper} {T : Nat → TV} {S : LS} {t u : TypeId} {x y : Operand} {b : Bool} {i : TI} (ho : o.op = .binOp .neq t x y u)
    (hx : lev T x = .one (.v (.bool b))) (hy : lev T y = .one (.v (.bool b))) (hi : D.get t = some i) (hd : i.desc = .bool) : LVal G o T S (.one (.v (.bool false))) :=
  LVal.binOp hD ho hx hy (by simp [lbin, hi, hd, leql])

/-- Contracts over plain values. -/
theorem ArgsRel.flat {G : Ctx} {w : World} {K : Kept} : ∀ {vs : List Value}, vs.all (fun v => v.oneCell') = true → ArgsRel G w K (vs.map fun v => .one (.v v)) vs.toArray := by
  intro vs
  induction vs with
  | nil => intro _; exact .nil
  | cons v vs ih =>
    intro h
    simp only [List.all_cons, Bool.and_eq_true] at h
    exact .cons (.raw h.1) (ih h.2)
theorem ArgsRel.flat_eq {G : Ctx} {w : World} {K : Kept} {vs : List Value} {us : Array Value} (h : ArgsRel G w K (vs.map fun v => .one (.v v)) us) : us = vs.toArray := by
  refine Array.ext_getElem? fun i => ?_
  have hs := h.1
  rw [List.length_map] at hs
  by_cases hi : i < vs.length
  · have := h.2 i (.one (.v vs[i])) us[i] (by simp [hi]) (by simp [hs, hi])
    rw [Array.getElem?_eq_getElem (by omega), this.flat]
    simp [hi]
  · rw [Array.getElem?_eq_none (by omega)]
    simp; omega

theorem LFun.flat {G : Ctx} {f : FuncId} (vs : List Value) {v : Value} (hvs : vs.all (fun v => v.oneCell') = true) (hv : v.oneCell' = true) (h : ∀ w, Calls G.P f vs.toArray w fun e w' => e = .returned v ∧ Below w.heap.size w w') :
    LFun G f (vs.map fun v => .one (.v v)) (.one (.v v)) :=
  .of_calls (fun _ _ => .flat hvs) (fun _ _ _ h => h.flat_eq) (fun _ _ => .raw hv) h
theorem LFun.flatT {G : Ctx} {f : FuncId} (vs us : List Value) (hvs : vs.all (fun v => v.oneCell') = true) (hus : us.all (fun v => v.oneCell') = true) (h : ∀ w, Calls G.P f vs.toArray w fun e w' => e = .returned (.tuple us.toArray) ∧ Below w.heap.size w w') :
    LFun G f (vs.map fun v => .one (.v v)) (.tup (us.map fun v => .one (.v v))) :=
  .of_calls (fun _ _ => .flat hvs) (fun _ _ _ h => h.flat_eq) (fun _ _ => .tup _ _ (by simp) (fun j x v hj hv => by
    rw [List.getElem?_map] at hj
    have : us[j]? = some v := by simpa using hv
    rw [this] at hj
    simp only [Option.map_some, Option.some.injEq] at hj
    subst hj
    exact .raw (List.all_eq_true.1 hus v (List.mem_of_getElem? this)))) h

theorem LVal.shr {G : Ctx} {o : Oper} {T : Nat → TV} {S : LS} {t u : TypeId} {x y : Operand} {k k' : IntKind} {a b : Int} (ho : o.op = .binOp .shr t x y u)
    (hx : lev T x = .one (.v (.int k a))) (hy : lev T y = .one (.v (.int k' b))) (h : 0 ≤ b ∧ b ≤ 8) (hk : 8 ≤ k.bits) : LVal G o T S (.one (.v (.int k (a / 2 ^ b.toNat)))) :=
  .of_run fun K w ac hi hr => by
    have h1 := hr x (by rw [ho]; simp [Op.operands])
    have h2 := hr y (by rw [ho]; simp [Op.operands])
    rw [hx] at h1
    rw [hy] at h2
    refine ⟨.int k (a / 2 ^ b.toNat), ?_, .raw rfl⟩
    simp only [execOp, ho, h1.flat, h2.flat, Sem.run_bind, eqGuard_flat (by simp : ∀ xs, Value.int k a ≠ .agg xs) (by simp), Result.andThen_ok, binOp_shr, shift_shr k k' a b h.1 (by omega), Sem.run_pure]
theorem LVal.shr64 {G : Ctx} {o : Oper} {T : Nat → TV} {S : LS} {t u : TypeId} {x y : Operand} {k' : IntKind} {a b : Int} (ho : o.op = .binOp .shr t x y u)
    (hx : lev T x = .one (.v (.int .u64 a))) (hy : lev T y = .one (.v (.int k' b))) (h : 0 ≤ b ∧ b ≤ 64) : LVal G o T S (.one (.v (.int .u64 (a / 2 ^ b.toNat)))) :=
  .of_run fun K w ac hi hr => by
    have h1 := hr x (by rw [ho]; simp [Op.operands])
    have h2 := hr y (by rw [ho]; simp [Op.operands])
    rw [hx] at h1
    rw [hy] at h2
    refine ⟨.int .u64 (a / 2 ^ b.toNat), ?_, .raw rfl⟩
    have hb : IntKind.u64.bits = 64 := rfl
    simp only [execOp, ho, h1.flat, h2.flat, Sem.run_bind, eqGuard_flat (by simp : ∀ xs, Value.int .u64 a ≠ .agg xs) (by simp), Result.andThen_ok, binOp_shr, shift_shr .u64 k' a b h.1 (by omega), Sem.run_pure]

/-- A cut: what the code leaves, then the rest. -/
theorem LWp.join {G : Ctx} {M : Option Nat} {n : Nat} {c : Code} {Q : Exit → (Nat → TV) → LS → Prop} {T : Nat → TV} {S : LS} (J : (Nat → TV) → LS → Prop) (h : LWp G M n c (andThen J Q) T S) (k : ∀ T' S', J T' S' → Q .normal T' S') : LWp G M n c Q T S :=
  h.mono fun e T' S' hp => by cases e <;> first | exact k _ _ hp | exact hp

def headRegion : Code → Option Nat
  | .region id _ _ => some id
  | .seq a _ => headRegion a
  | .block _ c => headRegion c
  | .loop c => headRegion c
  | _ => none
def seqHead : Code → Option Nat
  | .seq a _ => headRegion a
  | .block _ c => headRegion c
  | _ => none
/-- A cut at a statement that is known by its first region. -/
theorem LWp.cut {G : Ctx} {M : Option Nat} {n : Nat} {c : Code} {Q : Exit → (Nat → TV) → LS → Prop} {T : Nat → TV} {S : LS} (r : Nat) (J : (Nat → TV) → LS → Prop) (_hc : seqHead c = some r) (h : LWp G M n c (andThen J Q) T S) (k : ∀ T' S', J T' S' → Q .normal T' S') : LWp G M n c Q T S := .join J h k

theorem Owned.new (S : LS) (b : Nat) (e : TypeId) (n : Nat) : Owned (S.newRow b e n) e n (.own b) := row_new S b e n
theorem Owned.ofN {S : LS} {e : TypeId} {n m : Nat} {o : Own} (h : Owned S e n o) (hm : n = m) : Owned S e m o := hm ▸ h

theorem LS.leX.upto {X : Nat → Prop} {S S' : LS} {o : Own} (h : S.upto o S') : S.leX X S' := ⟨fun b c hb _ => h.box b c hb, h.obj⟩
theorem LS.leX.newRow {X : Nat → Prop} {S : LS} {b : Nat} (h : S.fresh b) (e : TypeId) (n : Nat) : S.leX X (S.newRow b e n) := .of_le (.newRow (.refl _) h _ _)
theorem LS.leX.newBox {X : Nat → Prop} {S : LS} {b : Nat} (h : S.fresh b) (cs : List LV) : S.leX X (S.newBox b cs) := .of_le (.newBox (.refl _) h _)
theorem LS.leX.setBox {X : Nat → Prop} {S : LS} {b : Nat} (h : X b) (cs : List LV) : S.leX X (S.setBox b cs) := ⟨fun b' c hb hx => (box_set_ne S cs (fun e => hx (by rw [e]; exact h))).trans hb, fun _ _ h => h⟩
end Go.Proofs.Ytkjbdldjfjkneaa.LF
