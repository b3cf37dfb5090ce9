/- Maps from numbers; calls of function values; nil slices. -/
import Derived.Test.YtkjbdldjfjkneaaLFo
import Derived.Test.YtkjbdldjfjkneaaLFi
import Derived.MapKept
set_option linter.unusedVariables false
set_option linter.unusedSimpArgs false
namespace Go.Proofs.Ytkjbdldjfjkneaa.LF
open Go.RowKit

/-- A map's entries. -/
def alGet : List (Int × Value) → Int → Option Value
  | [], _ => none
  | p :: l, k => if k = p.1 then some p.2 else alGet l k
def alPut : List (Int × Value) → Int → Value → List (Int × Value)
  | [], k, v => [(k, v)]
  | p :: l, k, v => if k = p.1 then (k, v) :: l else p :: alPut l k v

theorem alGet_put (k : Int) (v : Value) : ∀ (l : List (Int × Value)) (j : Int), alGet (alPut l k v) j = if j = k then some v else alGet l j := by
  intro l
  induction l with
  | nil => intro j; simp [alPut, alGet]
  | cons p l ih =>
    intro j
    unfold alPut
    split
    · rename_i h
      subst h
      simp only [alGet]
      split <;> rfl
    · rename_i h
      simp only [alGet, ih]
      by_cases h1 : j = p.1
      · rw [if_pos h1, if_pos h1, if_neg (fun e => h (by rw [← e, h1]))]
      · rw [if_neg h1, if_neg h1]

/-- A value's cells are plain. -/
def flatV (v : Value) : Bool := v.cells.toList.all Value.oneCell'
def rawTV : Value → TV
  | .agg cs => .agg (cs.toList.map .v)
  | x => .one (.v x)

theorem rawTV_rep {G : Ctx} {w : World} {K : Kept} {v : Value} (h : flatV v = true) : RepT G w K (rawTV v) v := by
  unfold rawTV
  split
  · rename_i cs
    refine .agg _ _ (by simp) fun j x u hj hu => ?_
    rw [List.getElem?_map] at hj
    have hc : cs.toList[j]? = some u := by simpa using hu
    rw [hc] at hj
    obtain rfl : LV.v u = x := by simpa using hj
    exact .raw u (List.all_eq_true.1 h u (by simpa [Value.cells] using List.mem_of_getElem? hc))
  · rename_i hn
    refine .one (.raw _ ?_)
    have : v.cells = #[v] := by cases v <;> first | rfl | exact absurd rfl (hn _)
    simpa [flatV, this] using h

structure IsMap (es : Array MapEntry) (al : List (Int × Value)) : Prop where
  ents : es.toList.map (fun e => (e.key, e.val)) = al.map fun p => (.int .i64 p.1, p.2)
  flat : ∀ p ∈ al, flatV p.2 = true

/-- A block that is a map. -/
def MapAt (S : LS) (m : Nat) (al : List (Int × Value)) : Prop := ∃ es c, S.obj m = some (.map es c) ∧ IsMap es al

theorem IsMap.empty : IsMap #[] [] := ⟨rfl, by simp⟩

def alFind : List (Int × Value) → Int → Nat → Option (Nat × Value)
  | [], _, _ => none
  | p :: l, k, i => if k = p.1 then some (i, p.2) else alFind l k (i + 1)

theorem alFind_get (k : Int) : ∀ (l : List (Int × Value)) (i : Nat), (alFind l k i).map (·.2) = alGet l k := by
  intro l
  induction l with
  | nil => intro i; rfl
  | cons p l ih => intro i; simp only [alFind, alGet]; split <;> simp [ih]

theorem alFind_none {k : Int} : ∀ {l : List (Int × Value)} {i : Nat} (v : Value), alFind l k i = none → alPut l k v = l ++ [(k, v)] := by
  intro l
  induction l with
  | nil => intro i v _; rfl
  | cons p l ih =>
    intro i v h
    simp only [alFind] at h
    split at h
    · cases h
    · rename_i hn
      simp only [alPut, if_neg hn, ih v h, List.cons_append]

theorem alFind_some {k : Int} : ∀ {l : List (Int × Value)} {i j : Nat} {u : Value} (v : Value), alFind l k i = some (j, u) → i ≤ j ∧ j - i < l.length ∧ l[j - i]? = some (k, u) ∧ alPut l k v = l.set (j - i) (k, v) := by
  intro l
  induction l with
  | nil => intro i j u v h; cases h
  | cons p l ih =>
    intro i j u v h
    simp only [alFind] at h
    split at h
    · rename_i hk
      obtain ⟨rfl, rfl⟩ : i = j ∧ p.2 = u := by simpa using h
      refine ⟨Nat.le_refl _, by simp, by simp [hk], ?_⟩
      simp [alPut, hk]
    · rename_i hk
      obtain ⟨h1, h2, h3, h4⟩ := ih v h
      obtain ⟨q, rfl⟩ : ∃ q, j = i + 1 + q := ⟨j - (i + 1), by omega⟩
      have e1 : i + 1 + q - (i + 1) = q := by omega
      have e2 : i + 1 + q - i = q + 1 := by omega
      rw [e1] at h2 h3 h4
      refine ⟨by omega, by simp [e2, h2], by simpa [e2] using h3, ?_⟩
      simp only [alPut, if_neg hk, h4, e2, List.set_cons_succ]

theorem findNow_al {q : IntKind} {k : Int} : ∀ (es : List MapEntry) (al : List (Int × Value)) (i : Nat), es.map (fun e => (e.key, e.val)) = al.map (fun p => (Value.int .i64 p.1, p.2)) → Instr.findNow (.int q) (.int .i64 k) es i = some (alFind al k i) := by
  intro es
  induction es with
  | nil => intro al i h; cases al <;> simp at h; rfl
  | cons e es ih =>
    intro al i h
    cases al with
    | nil => simp at h
    | cons p al =>
      simp only [List.map_cons, List.cons.injEq, Prod.mk.injEq] at h
      obtain ⟨⟨h1, h2⟩, h3⟩ := h
      unfold Instr.findNow
      simp only [h1, Instr.sameNow, if_true, alFind]
      by_cases hk : k = p.1
      · subst hk; simp [h2]
      · have : (k == p.1) = false := by simpa using hk
        simp only [this, if_neg hk]
        exact ih al (i + 1) h3

theorem run_lookup {P : Program} {w : World} {t kt et : TypeId} {q : IntKind} {j : TI} {m : Nat} {es : Array MapEntry} {c : Nat} {al : List (Int × Value)} {k : Int} (ht : P.underlying t = some (.map kt et)) (hk : P.underlying kt = some (.int q)) (hj : TIok P et j)
    (hm : w.heap[m]? = some (.map es c)) (ha : IsMap es al) : (Instr.lookup t (.map (some m)) (.int .i64 k) false).run P w = .ok ((alGet al k).getD j.zero) w := by
  have h1 := findNow_al (q := q) (k := k) es.toList al 0 ha.ents
  have hg := alFind_get k al 0
  have hc : ∀ em, (Instr.checkKey em 10000 kt (.int .i64 k)).run P w = .ok () w := fun em => by
    have key : ∀ n, (Instr.checkKey em (n + 1) kt (.int .i64 k)).run P w = .ok () w := fun n => by simp [Instr.checkKey, run_underlying hk]
    exact key 9999
  have hf : (Instr.findKey kt (.int .i64 k) es.toList).run P w = .ok (alFind al k 0) w := by simp [Instr.findKey, run_underlying hk, h1]
  cases hq : alFind al k 0 with
  | none =>
    rw [hq] at hg hf
    have : alGet al k = none := by simpa using hg.symm
    simp [Instr.lookup, run_underlying ht, MapKept.run_getObj_map hm, hc, hf, run_zero' hj, this, Result.andThen]
  | some p =>
    rw [hq] at hg hf
    have : alGet al k = some p.2 := by simpa using hg.symm
    simp [Instr.lookup, run_underlying ht, MapKept.run_getObj_map hm, hc, hf, this, Result.andThen]

theorem run_mapUpdate {P : Program} {w : World} {t kt et : TypeId} {q : IntKind} {m : Nat} {es : Array MapEntry} {c : Nat} {al : List (Int × Value)} {k : Int} {v : Value} (ht : P.underlying t = some (.map kt et)) (hk : P.underlying kt = some (.int q))
    (hm : w.heap[m]? = some (.map es c)) (ha : IsMap es al) (hv : flatV v = true) : ∃ es' c', (Instr.mapUpdate t (.map (some m)) (.int .i64 k) v).run P w = .ok () (w.putObj m (.map es' c')) ∧ IsMap es' (alPut al k v) := by
  have h1 := findNow_al (q := q) (k := k) es.toList al 0 ha.ents
  have hc : ∀ em, (Instr.checkKey em 10000 kt (.int .i64 k)).run P w = .ok () w := fun em => by
    have key : ∀ n, (Instr.checkKey em (n + 1) kt (.int .i64 k)).run P w = .ok () w := fun n => by simp [Instr.checkKey, run_underlying hk]
    exact key 9999
  have hf : (Instr.findKey kt (.int .i64 k) es.toList).run P w = .ok (alFind al k 0) w := by simp [Instr.findKey, run_underlying hk, h1]
  have hflat : ∀ p ∈ alPut al k v, flatV p.2 = true := fun p hp => by
    have key : ∀ l : List (Int × Value), (∀ p ∈ l, flatV p.2 = true) → ∀ p ∈ alPut l k v, flatV p.2 = true := by
      intro l
      induction l with
      | nil => intro _ p hp; simp [alPut] at hp; rw [hp]; exact hv
      | cons x l ih =>
        intro hl p hp
        unfold alPut at hp
        split at hp
        · rcases List.mem_cons.1 hp with rfl | hp
          · exact hv
          · exact hl p (List.mem_cons_of_mem _ hp)
        · rcases List.mem_cons.1 hp with rfl | hp
          · exact hl p (by simp)
          · exact ih (fun p hp => hl p (List.mem_cons_of_mem _ hp)) p hp
    exact key al ha.flat p hp
  cases hq : alFind al k 0 with
  | none =>
    rw [hq] at hf
    refine ⟨es.push ⟨.int .i64 k, v, c⟩, c + 1, ?_, ?_, hflat⟩
    · simp [Instr.mapUpdate, run_underlying ht, MapKept.run_getObj_map hm, hc, hf, MapKept.run_setObj_map _ hm, Result.andThen, World.putObj]
    · rw [alFind_none v hq]
      simp [ha.ents]
  | some p =>
    obtain ⟨j, u⟩ := p
    rw [hq] at hf
    obtain ⟨_, g2, g3, g4⟩ := alFind_some v hq
    simp only [Nat.sub_zero] at g2 g3 g4
    have hlen : es.size = al.length := by have := congrArg List.length ha.ents; simpa using this
    have hje : ∃ e, es[j]? = some e ∧ e.key = .int .i64 k := by
      refine ⟨es[j], Array.getElem?_eq_getElem (by omega), ?_⟩
      have := congrArg (·[j]?) ha.ents
      simp only [List.getElem?_map, g3, Option.map_some] at this
      rw [Array.getElem?_toList, Array.getElem?_eq_getElem (by omega)] at this
      simp at this
      exact this.1
    obtain ⟨e, he, hek⟩ := hje
    have hst : (Instr.keyThatStays (.int .i64 k) (.int .i64 k)).run P w = .ok (.int .i64 k) w := by simp [Instr.keyThatStays, Instr.sameBits]
    refine ⟨es.modify j fun e => { e with key := .int .i64 k, val := v }, c, ?_, ?_, hflat⟩
    · simp [Instr.mapUpdate, run_underlying ht, MapKept.run_getObj_map hm, hc, hf, he, hek, hst, MapKept.run_setObj_map _ hm, Result.andThen, World.putObj]
    · rw [g4]
      apply List.ext_getElem?
      intro i
      have hi := congrArg (·[i]?) ha.ents
      simp only [List.getElem?_map, Array.getElem?_toList] at hi
      simp only [List.getElem?_map, Array.getElem?_toList, List.getElem?_set, Array.getElem?_modify]
      by_cases hij : j = i
      · subst hij
        simp [he, g2]
      · simp only [if_neg hij]
        exact hi

/-- A map looked at. -/
theorem LVal.lookup {G : Ctx} {D : Tab} (hD : TabOK G.P D) {o : Oper} {T : Nat → TV} {S : LS} {t kt et : TypeId} {x ix : Operand} {m : Nat} {k : Int} {q : IntKind} {i ik j : TI} {al : List (Int × Value)} (ho : o.op = .lookup t x ix false)
    (hx : lev T x = .one (.v (.map (some m)))) (hix : lev T ix = .one (.v (.int .i64 k))) (hi : D.get t = some i) (hd : i.desc = .map kt et) (hk : D.get kt = some ik) (hdk : ik.desc = .int q) (hj : D.get et = some j) (hz : flatV j.zero = true) (hm : MapAt S m al)
    {v : Value} (hv : (alGet al k).getD j.zero = v) {r : TV} (hr : rawTV v = r) : LVal G o T S r :=
  .of_run fun K w ac hinv hr' => by
    have h1 := hr' x (by rw [ho]; simp [Op.operands])
    have h2 := hr' ix (by rw [ho]; simp [Op.operands])
    rw [hx] at h1
    rw [hix] at h2
    obtain ⟨es, c, hb, ha⟩ := hm
    obtain ⟨_, _, hh, _⟩ := hinv.obj m _ hb
    have e1 := (hD.get hi).und
    rw [hd] at e1
    have e2 := (hD.get hk).und
    rw [hdk] at e2
    have := run_lookup (w := w) (k := k) e1 e2 (hD.get hj) hh ha
    rw [hv] at this
    refine ⟨v, ?_, ?_⟩
    · simp only [execOp, ho, h1.flat, h2.flat, Sem.run_bind, this, Result.andThen_ok, Sem.run_pure]
    · rw [← hr]
      refine rawTV_rep ?_
      rw [← hv]
      cases hq : alGet al k with
      | none => exact hz
      | some u =>
        have : ∃ p ∈ al, p.2 = u := by
          clear hv this ha hb
          induction al with
          | nil => cases hq
          | cons p al ih =>
            simp only [alGet] at hq
            split at hq
            · exact ⟨p, by simp, by simpa using hq⟩
            · obtain ⟨p', h1, h2⟩ := ih hq; exact ⟨p', List.mem_cons_of_mem _ h1, h2⟩
        obtain ⟨p, hp, rfl⟩ := this
        exact ha.flat p hp

/-- A map written. -/
theorem LDo.mapUpdate {G : Ctx} {D : Tab} (hD : TabOK G.P D) {o : Oper} {T : Nat → TV} {S : LS} {t kt et : TypeId} {x ix y : Operand} {m : Nat} {k : Int} {q : IntKind} {i ik : TI} {al : List (Int × Value)} {v : Value} (ho : o.op = .mapUpdate t x ix y)
    (hx : lev T x = .one (.v (.map (some m)))) (hix : lev T ix = .one (.v (.int .i64 k))) (hi : D.get t = some i) (hd : i.desc = .map kt et) (hk : D.get kt = some ik) (hdk : ik.desc = .int q) (hy : lev T y = rawTV v) (hvf : flatV v = true) (hm : MapAt S m al) :
    LDo G o T S (fun r S' => r = .tup [] ∧ ∃ o, S' = S.setObj m o ∧ MapAt S' m (alPut al k v)) := by
  intro K w ac hinv hr'
  have h1 := hr' x (by rw [ho]; simp [Op.operands])
  have h2 := hr' ix (by rw [ho]; simp [Op.operands])
  have h3 := hr' y (by rw [ho]; simp [Op.operands])
  rw [hx] at h1
  rw [hix] at h2
  rw [hy] at h3
  have hyv : ac.eval y = v := by
    generalize ac.eval y = u at h3
    unfold rawTV at h3
    split at h3
    · rename_i cs
      obtain ⟨vs, rfl, g1, g2⟩ := h3.agg_inv
      congr 1
      refine Array.ext (by simpa using g1) fun j hj1 hj2 => ?_
      have := g2 j _ vs[j] (by rw [List.getElem?_map]; rw [Array.getElem?_toList, Array.getElem?_eq_getElem hj2]; rfl) (Array.getElem?_eq_getElem hj1)
      generalize vs[j] = u at this
      cases this; rfl
    · exact h3.flat
  obtain ⟨es, c, hb, ha⟩ := hm
  obtain ⟨b1, b2, hh, b3, b4⟩ := hinv.obj m _ hb
  have e1 := (hD.get hi).und
  rw [hd] at e1
  have e2 := (hD.get hk).und
  rw [hdk] at e2
  obtain ⟨es', c', hrun, ha'⟩ := run_mapUpdate (w := w) (k := k) (v := v) e1 e2 hh ha hvf
  have hlt : m < w.heap.size := (Array.getElem?_eq_some_iff.1 hh).1
  obtain ⟨j1, j2⟩ := hinv.putObj (o' := .map es' c') b1 hlt hh b3 rfl (by simp) b4
  unfold Oper.wp
  simp only [execOp, ho, h1.flat, h2.flat, hyv, Sem.run_bind, hrun, Result.andThen_ok, Sem.run_pure]
  exact ⟨.tup [], undef, S.setObj m (.map es' c'), K, rfl, .tup [] #[] rfl (by simp), j1, j2, rfl, _, rfl, es', c', setObj_obj _ _ _, ha'⟩

theorem LDo.makeMap {G : Ctx} {o : Oper} {T : Nat → TV} {S : LS} {t : TypeId} (ho : o.op = .makeMap t none) :
    LDo G o T S (fun r S' => ∃ m, S.fresh m ∧ r = .one (.v (.map (some m))) ∧ S' = S.setObj m (.map #[] 0)) :=
  .of_run fun K w ac hinv _ => by
    refine ⟨_, .map (some w.heap.size), _, K, w.alloc (.map #[] 0), ?_, .one (.raw _ rfl), hinv.newObj _ rfl (by simp), .alloc hinv _, w.heap.size, hinv.fresh, rfl, rfl⟩
    have : (Instr.makeMap t none).run G.P w = .ok (.map (some w.heap.size)) (w.alloc (.map #[] 0)) := rfl
    simp only [execOp, ho, Option.map_none, Sem.run_bind, this, Result.andThen_ok, Sem.run_pure]

theorem MapAt.new (S : LS) (m : Nat) : MapAt (S.setObj m (.map #[] 0)) m [] := ⟨#[], 0, setObj_obj _ _ _, IsMap.empty⟩

/-- A slice held against nil. -/
theorem LDo.eqNil {G : Ctx} {D : Tab} (hD : TabOK G.P D) {o : Oper} {T : Nat → TV} {S : LS} {t u e : TypeId} {x : Operand} {w0 : Own} {es : List (List LV)} {i : TI} (ho : o.op = .binOp .eql t x (.const (.slice none 0 0)) u)
    (hx : lev T x = .one (.sl w0 es)) (hi : D.get t = some i) (hd : i.desc = .slice e) : LDo G o T S (fun r S' => ∃ b, r = .one (.v (.bool b)) ∧ S' = S ∧ (b = true → es = [])) :=
  .of_run fun K w ac hinv hr => by
    have h1 := hr x (by rw [ho]; simp [Op.operands])
    rw [hx] at h1
    have e1 := (hD.get hi).und
    rw [hd] at e1
    have h2 := h1.of_one
    have e2 : ac.eval (.const (.slice none 0 0)) = .slice none 0 0 := rfl
    have key : ∀ (a : Option Addr) (n c : Nat), ac.eval x = .slice a n c → (execOp ac.eval o).run G.P w = .ok (.value (.bool a.isNone)) w := fun a n c h => by
      have : (Op.equal t (.slice a n c) (.slice none 0 0)).run G.P w = .ok a.isNone w := by
        have k2 : ∀ d, (Op.equalIn (d + 1) t (.slice a n c) (.slice none 0 0)).run G.P w = .ok a.isNone w := fun d => by
          cases a <;> simp [Op.equalIn, run_underlying e1]
        exact k2 9999
      simp only [execOp, ho, h, e2, Sem.run_bind, eqGuard_flat (a := .slice a n c) (by simp) (by simp), Result.andThen_ok, binOp, this, Sem.run_pure]
    generalize hv : ac.eval x = v at h2
    cases h2 with
    | nil => exact ⟨_, _, S, K, w, key _ _ _ hv, .one (.raw _ rfl), hinv, .refl _ _, _, rfl, rfl, fun _ => rfl⟩
    | emp a cap => exact ⟨_, _, S, K, w, key _ _ _ hv, .one (.raw _ rfl), hinv, .refl _ _, _, rfl, rfl, fun _ => rfl⟩
    | row _ _ b off cap z c => exact ⟨_, _, S, K, w, key _ _ _ hv, .one (.raw _ rfl), hinv, .refl _ _, _, rfl, rfl, fun h => by cases h⟩

/-- A call of a function value. -/
theorem LDo.callV {G : Ctx} {o : Oper} {T : Nat → TV} {S : LS} {g : Operand} {f : FuncId} {fn : Func} {cs : List Value} {xs : List Operand} {ts : Array TypeId} {args : List TV} {R : TV → LS → Prop}
    (ho : o.op = .call { callee := .value g, args := xs.toArray, argTypes := ts }) (hg : lev T g = .one (.v (.func (.func f) #[] cs.toArray))) (hx : xs.map (fun x => shTV (lev T x)) = args) (hcs : cs.all (fun v => v.oneCell') = true) (hf : G.P.funcs[f]? = some fn) (hb : fn.body.isSome = true) (hn : fn.name ≠ "runtime.NumGoroutine")
    (h : LCalls G f (args ++ cs.map fun v => .one (.v v)) R S) : LDo G o T S R := by
  intro K w a hi hr
  have hgv := hr g (by rw [ho]; simp [Op.operands, Call.operands])
  rw [hg] at hgv
  have hrun : (execOp a.eval o).run G.P w = .ok (.enter f ((xs.map a.eval) ++ cs).toArray) w := by
    have hbn : fn.body ≠ none := fun e => by rw [e] at hb; cases hb
    simp [execOp, ho, resolve, hgv.flat, Deferred.ofValue, invoke, callFunc, hf, hn, hbn]
  unfold Oper.wp
  rw [hrun]
  refine (h K w _ hi ⟨by rw [← hx]; simp, fun i x v hx' hv => ?_⟩).mono fun e w' hp => ?_
  · subst hx
    rw [List.getElem?_toArray] at hv
    by_cases hlt : i < xs.length
    · rw [List.getElem?_append_left (by simpa using hlt)] at hx' hv
      rw [List.getElem?_map, List.getElem?_eq_getElem hlt] at hx' hv
      simp only [Option.map_some, Option.some.injEq] at hx' hv
      subst hx'; subst hv
      exact (hr xs[i] (by rw [ho]; simp [Op.operands, Call.operands])).shTV
    · rw [List.getElem?_append_right (by simpa using hlt)] at hx' hv
      simp only [List.length_map] at hx' hv
      rw [List.getElem?_map, hv] at hx'
      obtain rfl : TV.one (.v v) = x := by simpa using hx'
      exact .one (.raw v (List.all_eq_true.1 hcs v (List.mem_of_getElem? hv)))
  · obtain ⟨r', v, S', K', rfl, h2, h3, h4, h5⟩ := hp
    exact ⟨r', v, S', K', rfl, h2, h3, h4, h5⟩

theorem Rep.ptr_inv {G : Ctx} {w : World} {K : Kept} {l : List LV} {v : Value} (h : Rep G w K (.p l) v) :
    ∃ (b off : Nat) (c : Nat → Value), v = .pointer (some ⟨b, off, none⟩) ∧ (∀ (j : Nat) x, l[j]? = some x → w.cell? ⟨b, off + j, none⟩ = some (c j) ∧ K b (off + j)) ∧ ∀ (j : Nat) x, l[j]? = some x → Rep G w K x (c j) := by
  cases h with | ptr l b off c h hr => exact ⟨b, off, c, rfl, h, hr⟩
theorem RepT.p_ro {G : Ctx} {w : World} {K : Kept} {l : List LV} {v : Value} (h : RepT G w K (.one (.p l)) v) : RepT G w K (.ro l) v := by
  obtain ⟨b, off, c, rfl, h1, h2⟩ := h.of_one.ptr_inv
  exact .ro l b off c h1 h2

/-- A pointer to what stays is none of nil: its place. -/
theorem LVal.nilCheckP {G : Ctx} {o : Oper} {T : Nat → TV} {S : LS} {x : Operand} {l : List LV} (ho : o.op = .nilCheck x) (hx : lev T x = .one (.p l)) : LVal G o T S (.ro l) :=
  .of_run fun K w ac hi hr => by
    have h1 := hr x (by rw [ho]; simp [Op.operands])
    rw [hx] at h1
    obtain ⟨b, off, c, e, _⟩ := h1.of_one.ptr_inv
    exact ⟨ac.eval x, by simp [execOp, ho, e], h1.p_ro⟩
theorem LVal.eqNilP {G : Ctx} {D : Tab} (hD : TabOK G.P D) {o : Oper} {T : Nat → TV} {S : LS} {t u e : TypeId} {x : Operand} {l : List LV} {i : TI} (ho : o.op = .binOp .eql t x (.const (.pointer none)) u) (hx : lev T x = .one (.p l)) (hi : D.get t = some i) (hd : i.desc = .pointer e) : LVal G o T S (.one (.v (.bool false))) :=
  .of_run fun K w ac hi' hr => by
    have h1 := hr x (by rw [ho]; simp [Op.operands])
    rw [hx] at h1
    obtain ⟨b, off, c, ev, _⟩ := h1.of_one.ptr_inv
    have e1 := (hD.get hi).und
    rw [hd] at e1
    have e2 : ac.eval (.const (.pointer none)) = .pointer none := rfl
    have he := equal_of (w := w) e1 (a := .pointer (some ⟨b, off, none⟩)) (b := .pointer none) (c := false) rfl
    refine ⟨_, ?_, .raw rfl⟩
    simp only [execOp, ho, ev, e2, Sem.run_bind, eqGuard_flat (a := .pointer (some ⟨b, off, none⟩)) (by simp) (by simp), Result.andThen_ok, Go.binOp, he, Sem.run_pure]
theorem LVal.neqNilP {G : Ctx} {D : Tab} (hD : TabOK G.P D) {o : Oper} {T : Nat → TV} {S : LS} {t u e : TypeId} {x : Operand} {l : List LV} {i : TI} (ho : o.op = .binOp .neq t x (.const (.pointer none)) u) (hx : lev T x = .one (.p l)) (hi : D.get t = some i) (hd : i.desc = .pointer e) : LVal G o T S (.one (.v (.bool true))) :=
  .of_run fun K w ac hi' hr => by
    have h1 := hr x (by rw [ho]; simp [Op.operands])
    rw [hx] at h1
    obtain ⟨b, off, c, ev, _⟩ := h1.of_one.ptr_inv
    have e1 := (hD.get hi).und
    rw [hd] at e1
    have e2 : ac.eval (.const (.pointer none)) = .pointer none := rfl
    have he := equal_of (w := w) e1 (a := .pointer (some ⟨b, off, none⟩)) (b := .pointer none) (c := false) rfl
    refine ⟨_, ?_, .raw rfl⟩
    simp only [execOp, ho, ev, e2, Sem.run_bind, eqGuard_flat (a := .pointer (some ⟨b, off, none⟩)) (by simp) (by simp), Result.andThen_ok, Go.binOp, he, Sem.run_pure]
    rfl

end Go.Proofs.Ytkjbdldjfjkneaa.LF
