/- Slices whose cells may be written: values of slices that lead into boxes. -/
import Derived.Test.YtkjbdldjfjkneaaLFv
import Derived.Deep.AppendSrc
set_option linter.unusedVariables false
set_option linter.unusedSimpArgs false
namespace Go.Proofs.Ytkjbdldjfjkneaa.LF
open Go.RowKit

abbrev rsl (b off n c : Nat) : LV := .v (.slice (some ⟨b, off, none⟩) n c)

/-- What a slice has: so many elements, their cells. -/
inductive SrcL (S : LS) (z : Nat) : LV → Nat → List LV → Prop
  | raw (b off n c : Nat) (cs : List LV) (hb : S.box b = some cs) (h : off + n * z ≤ cs.length) : SrcL S z (rsl b off n c) n ((cs.drop off).take (n * z))
  | sl (o : Own) (es : List (List LV)) (hz : ∀ e ∈ es, e.length = z) : SrcL S z (.sl o es) es.length es.flatten

theorem flatten_length {z : Nat} : ∀ {es : List (List LV)}, (∀ e ∈ es, e.length = z) → es.flatten.length = es.length * z := by
  intro es
  induction es with
  | nil => intro _; simp
  | cons e es ih =>
    intro h
    rw [List.flatten_cons, List.length_append, h e (by simp), ih fun x hx => h x (List.mem_cons_of_mem _ hx), List.length_cons, Nat.add_mul, Nat.one_mul, Nat.add_comm]
theorem flatten_get {z : Nat} : ∀ {es : List (List LV)}, (∀ e ∈ es, e.length = z) → ∀ (i j : Nat), j < z → es.flatten[i * z + j]? = cellOf es i j := by
  intro es
  induction es with
  | nil => intro _ i j _; simp [cellOf]
  | cons e es ih =>
    intro h i j hj
    have he := h e (by simp)
    rw [List.flatten_cons]
    cases i with
    | zero =>
      rw [Nat.zero_mul, Nat.zero_add, List.getElem?_append_left (by omega)]
      rfl
    | succ i =>
      rw [Nat.add_mul, Nat.one_mul, List.getElem?_append_right (by omega), show i * z + z + j - e.length = i * z + j by omega, ih (fun x hx => h x (List.mem_cons_of_mem _ hx)) i j hj]
      rfl

/-- What stands behind it. -/
theorem SrcL.run {G : Ctx} {S : LS} {K : Kept} {w : World} (hi : Inv G S K w) {z : Nat} (hz0 : 0 < z) {x : LV} {n : Nat} {l : List LV} (h : SrcL S z x n l) {v : Value} (hr : Rep G w K x v) :
    ∃ (a : Option Addr) (c : Nat) (vs : List Value), v = .slice a n c ∧ vs.length = n * z ∧ l.length = n * z ∧ (∀ (j : Nat) y u, l[j]? = some y → vs[j]? = some u → Rep G w K y u) ∧ (n ≠ 0 → a.isSome = true) ∧ ∀ a', a = some a' → ∀ (j : Nat) u, vs[j]? = some u → w.cell? (a'.add j) = some u := by
  cases h with
  | raw b off _ c cs hb hl =>
    cases hr with
    | raw _ h1 =>
      obtain ⟨cur, T, c1, c2, c3⟩ := hi.cells hb
      have hlen : ((cs.drop off).take (n * z)).length = n * z := by rw [List.length_take, List.length_drop]; omega
      have hlen2 : ((cur.toList.drop off).take (n * z)).length = n * z := by rw [List.length_take, List.length_drop, Array.length_toList]; omega
      refine ⟨_, _, (cur.toList.drop off).take (n * z), rfl, hlen2, hlen, fun j y u hj hu => ?_, fun _ => rfl, fun a' ha j u hu => ?_⟩
      · have hjl := (List.getElem?_eq_some_iff.1 hj).1
        rw [hlen] at hjl
        rw [List.getElem?_take, if_pos hjl, List.getElem?_drop] at hj hu
        obtain ⟨v, d1, d2, d3⟩ := c3 _ y hj
        rw [Array.getElem?_toList, d1] at hu
        obtain rfl : v = u := by simpa using hu
        exact d3
      · obtain rfl : ⟨b, off, none⟩ = a' := by simpa using ha
        have hjl := (List.getElem?_eq_some_iff.1 hu).1
        rw [hlen2] at hjl
        rw [List.getElem?_take, if_pos hjl, List.getElem?_drop, Array.getElem?_toList] at hu
        rw [add_off, cell_of_row w b (off + j) cur T (0, 0) c1]
        exact hu
  | sl o es hz =>
    by_cases hne : es = []
    · subst hne
      cases hr with
      | nil => exact ⟨none, 0, [], rfl, by simp, by simp, by simp, by simp, by simp⟩
      | emp a cap => exact ⟨a, cap, [], rfl, by simp, by simp, by simp, by simp, by simp⟩
      | row _ _ b off cap z' c => exact ⟨some ⟨b, off, none⟩, cap, [], rfl, by simp, by simp, by simp, by simp, by simp⟩
    · obtain ⟨b, off, cap, vs, h1, h2, h3, h4, _⟩ := hr.flat hz0 hz hne
      have hfl := flatten_length hz
      refine ⟨_, _, vs, h1, h3.len, hfl, fun j y u hj hu => ?_, fun _ => rfl, fun a' ha j u hu => ?_⟩
      · have hjl := (List.getElem?_eq_some_iff.1 hj).1
        have hd : j / z * z + j % z = j := by rw [Nat.mul_comm]; exact Nat.div_add_mod j z
        rw [← hd, flatten_get hz _ _ (Nat.mod_lt _ hz0)] at hj
        obtain ⟨v, e1, e2⟩ := h3.rep _ _ y hj
        rw [hd, hu] at e1
        obtain rfl : u = v := by simpa using e1
        exact e2
      · obtain rfl : ⟨b, off, none⟩ = a' := by simpa using ha
        rw [add_off]; exact (h4 j u hu).1

theorem SrcL.one {G : Ctx} {w : World} {K : Kept} {l : List LV} {vs : List Value} (hl : vs.length = l.length) (h : ∀ (j : Nat) y u, l[j]? = some y → vs[j]? = some u → Rep G w K y u) : ∀ u ∈ vs, u.oneCell' = true := fun u hu => by
  obtain ⟨j, hj⟩ := List.getElem?_of_mem hu
  have := (List.getElem?_eq_some_iff.1 hj).1
  exact (h j _ u (List.getElem?_eq_getElem (by omega)) hj).oneCell

/-- The kit's word for what is appended. -/
theorem SrcL.src {G : Ctx} {S : LS} {K : Kept} {w : World} (hi : Inv G S K w) {z : Nat} (hz0 : 0 < z) {x : LV} {n : Nat} {l : List LV} (h : SrcL S z x n l) {v : Value} (hr : Rep G w K x v) {tx e' : TypeId} (hk : G.P.underlying tx = some (.slice e')) :
    ∃ (a : Option Addr) (c : Nat) (vs : List Value), v = .slice a n c ∧ vs.length = n * z ∧ l.length = n * z ∧ (∀ (j : Nat) y u, l[j]? = some y → vs[j]? = some u → Rep G w K y u) ∧ Src G.P z tx v n vs w := by
  obtain ⟨a, c, vs, h1, h2, h3, h4, h5, h6⟩ := h.run hi hz0 hr
  have one := SrcL.one (by rw [h2, h3]) h4
  refine ⟨a, c, vs, h1, h2, h3, h4, ?_⟩
  rw [h1]
  cases a with
  | some a => exact Src.ofSlice w hk a n c vs h2 (h6 a rfl) one
  | none =>
    obtain rfl : n = 0 := by
      rcases Nat.eq_zero_or_pos n with h | h
      · exact h
      · simp at h5; omega
    obtain rfl : vs = [] := List.length_eq_zero_iff.1 (by omega)
    exact Src.ofNil w hk c

/-- Elements of zero. -/
def zrow (j : TI) (n : Nat) : List LV := (List.replicate n (lzero j)).flatten
theorem zrow_length (j : TI) (n : Nat) : (zrow j n).length = n * j.zero.cells.size := by
  induction n with
  | zero => simp [zrow]
  | succ n ih =>
    unfold zrow at ih ⊢
    rw [List.replicate_succ, List.flatten_cons, List.length_append, ih, Nat.add_mul]
    simp [lzero]; omega
theorem zeroCells_toList (z : Array Value) (n : Nat) : (Builtin.zeroCells z n).toList = (List.replicate n z.toList).flatten := by
  have hz : (List.range z.size).map (fun i => z[i]!) = z.toList := by
    apply List.ext_getElem?
    intro i
    rw [List.getElem?_map]
    by_cases h : i < z.size
    · rw [List.getElem?_range h]; simp [h]
    · rw [List.getElem?_eq_none (by simp; omega)]; simp; omega
  have key : ∀ n, (List.range (n * z.size)).map (fun i => z[i % z.size]!) = (List.replicate n z.toList).flatten := by
    intro n
    induction n with
    | zero => simp
    | succ n ih =>
      rw [Nat.add_mul, Nat.one_mul, List.range_add, List.map_append, ih, List.replicate_succ', List.flatten_append, List.map_map]
      congr 1
      rw [List.flatten_cons, List.flatten_nil, List.append_nil, ← hz]
      apply List.map_congr_left
      intro i hi
      have hi : i < z.size := by simpa using hi
      simp only [Function.comp_apply]
      rw [Nat.mul_comm n, Nat.mul_add_mod, Nat.mod_eq_of_lt hi]
  simp only [Builtin.zeroCells]
  rw [← key n]
  simp
theorem zrow_rep (G : Ctx) (w : World) (K : Kept) {j : TI} (hz : j.zero.cells.toList.all Value.oneCell' = true) (n : Nat) : ∀ (q : Nat) x v, (zrow j n)[q]? = some x → (Builtin.zeroCells j.zero.cells n)[q]? = some v → Rep G w K x v := by
  intro q x v hx hv
  rw [← Array.getElem?_toList, zeroCells_toList] at hv
  have e : zrow j n = ((List.replicate n j.zero.cells.toList).flatten).map constLV := by
    simp [zrow, lzero, List.map_flatten]
  rw [e, List.getElem?_map, hv] at hx
  simp only [Option.map_some, Option.some.injEq] at hx
  subst hx
  refine constLV_rep G w K v ?_
  have hm := List.mem_of_getElem? hv
  simp only [List.mem_flatten, List.mem_replicate] at hm
  obtain ⟨l, ⟨_, rfl⟩, hm⟩ := hm
  exact List.all_eq_true.1 hz v hm

theorem append_get_rep {G : Ctx} {w : World} {K : Kept} {l l2 : List LV} {vs vs2 : List Value} (hl : vs.length = l.length) (h : ∀ (j : Nat) y u, l[j]? = some y → vs[j]? = some u → Rep G w K y u) (h2 : ∀ (j : Nat) y u, l2[j]? = some y → vs2[j]? = some u → Rep G w K y u) :
    ∀ (j : Nat) y u, (l ++ l2)[j]? = some y → (vs ++ vs2)[j]? = some u → Rep G w K y u := fun j y u hy hu => by
  by_cases hj : j < l.length
  · rw [List.getElem?_append_left hj] at hy
    rw [List.getElem?_append_left (by omega)] at hu
    exact h j y u hy hu
  · rw [List.getElem?_append_right (by omega)] at hy
    rw [List.getElem?_append_right (by omega), hl] at hu
    exact h2 _ y u hy hu

theorem splice_nil (cs : List LV) (off : Nat) : splice cs off [] = cs := by simp [splice]

section
variable {G : Ctx} {D : Tab} (hD : TabOK G.P D) {o : Oper} {T : Nat → TV} {S : LS} {t e : TypeId} {i j : TI}
include hD

theorem LVal.lenR {x : Operand} {a : Option Addr} {n c : Nat} (ho : o.op = .call { callee := .builtin .len, args := #[x], argTypes := #[t] })
    (hx : lev T x = .one (.v (.slice a n c))) (hi : D.get t = some i) (hd : i.desc = .slice e) : LVal G o T S (.one (.v (.int .i64 (n : Nat)))) :=
  .of_run fun K w ac hi' hr => by
    have h1 := hr x (by rw [ho]; simp [Op.operands, Call.operands])
    rw [hx] at h1
    have e1 := (hD.get hi).und
    rw [hd] at e1
    refine ⟨_, ?_, .raw rfl⟩
    simp [execOp, ho, resolve, invoke, builtin, h1.flat, Builtin.len_, run_underlying e1, goInt]
theorem LVal.capR {x : Operand} {a : Option Addr} {n c : Nat} (ho : o.op = .call { callee := .builtin .cap, args := #[x], argTypes := #[t] })
    (hx : lev T x = .one (.v (.slice a n c))) (hi : D.get t = some i) (hd : i.desc = .slice e) : LVal G o T S (.one (.v (.int .i64 (c : Nat)))) :=
  .of_run fun K w ac hi' hr => by
    have h1 := hr x (by rw [ho]; simp [Op.operands, Call.operands])
    rw [hx] at h1
    have e1 := (hD.get hi).und
    rw [hd] at e1
    refine ⟨_, ?_, .raw rfl⟩
    simp [execOp, ho, resolve, invoke, builtin, h1.flat, Builtin.cap_, run_underlying e1, goInt]
/-- An element's place. -/
theorem LVal.indexR {x ix : Operand} {b off n c : Nat} {k : IntKind} {m : Int} (ho : o.op = .indexAddr t x ix)
    (hx : lev T x = .one (rsl b off n c)) (hix : lev T ix = .one (.v (.int k m))) (hi : D.get t = some i) (hd : i.desc = .slice e) (hj : D.get e = some j) (h0 : 0 ≤ m) (hm : m < (n : Int)) :
    LVal G o T S (.one (.v (.pointer (some ⟨b, off + m.toNat * j.size, none⟩)))) :=
  .of_run fun K w ac hi' hr => by
    have h1 := hr x (by rw [ho]; simp [Op.operands])
    have h2 := hr ix (by rw [ho]; simp [Op.operands])
    rw [hx] at h1
    rw [hix] at h2
    have e1 := (hD.get hi).und
    rw [hd] at e1
    have hb : 0 ≤ m ∧ m < (n : Int) := ⟨h0, hm⟩
    refine ⟨_, ?_, .raw rfl⟩
    simp only [execOp, ho, h1.flat, h2.flat, Instr.indexAt, Sem.run_bind, asIntOf, Sem.run_pure, Result.andThen_ok, run_underlying e1, hb, and_self, if_true, run_sizeOf' (hD.get hj), add_off]
/-- A slice held against nil. -/
theorem LVal.eqNilR {x : Operand} {u : TypeId} {a : Addr} {n c : Nat} (ho : o.op = .binOp .eql t x (.const (.slice none 0 0)) u) (hx : lev T x = .one (.v (.slice (some a) n c))) (hi : D.get t = some i) (hd : i.desc = .slice e) : LVal G o T S (.one (.v (.bool false))) :=
  .of_run fun K w ac hi' hr => by
    have h1 := hr x (by rw [ho]; simp [Op.operands])
    rw [hx] at h1
    have e1 := (hD.get hi).und
    rw [hd] at e1
    have e2 : ac.eval (.const (.slice none 0 0)) = .slice none 0 0 := rfl
    have : (Op.equal t (.slice (some a) n c) (.slice none 0 0)).run G.P w = .ok false w := by
      have k2 : ∀ d, (Op.equalIn (d + 1) t (.slice (some a) n c) (.slice none 0 0)).run G.P w = .ok false w := fun d => by simp [Op.equalIn, run_underlying e1]
      exact k2 9999
    refine ⟨_, ?_, .raw rfl⟩
    simp only [execOp, ho, h1.flat, e2, Sem.run_bind, eqGuard_flat (a := .slice (some a) n c) (by simp) (by simp), Result.andThen_ok, Go.binOp, this, Sem.run_pure]
end

end Go.Proofs.Ytkjbdldjfjkneaa.LF
