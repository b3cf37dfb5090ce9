/- Maps whose keys are numbers of any kind: looked at, written, counted; a key taken out. -/
import Derived.Test.YtinbibeapooghaaLGb
import Derived.Test.YtinbibeapooghaaLGa
set_option linter.unusedVariables false
set_option linter.unusedSimpArgs false
namespace Go.Proofs.Ytinbibeapooghaa.LF
open Go.RowKit
set_option linter.unusedVariables false

structure IsMapK (κ : IntKind) (es : Array MapEntry) (al : List (Int × Value)) : Prop where
  ents : es.toList.map (fun e => (e.key, e.val)) = al.map fun p => (.int κ p.1, p.2)
  flat : ∀ p ∈ al, flatV p.2 = true

/-- A block that is a map. -/
def MapK (κ : IntKind) (S : LS) (m : Nat) (al : List (Int × Value)) : Prop := ∃ es c, S.obj m = some (.map es c) ∧ IsMapK κ es al

theorem IsMapK.empty {κ : IntKind} : IsMapK κ #[] [] := ⟨rfl, by simp⟩

theorem findNow_k {κ q : IntKind} {k : Int} : ∀ (es : List MapEntry) (al : List (Int × Value)) (i : Nat), es.map (fun e => (e.key, e.val)) = al.map (fun p => (Value.int κ p.1, p.2)) → Instr.findNow (.int q) (.int κ k) es i = some (alFind al k i) := by
  intro es
  induction es with
  | nil => intro al i h; cases al <;> simp at h; rfl
  | cons e es ih =>
    intro al i h
    cases al with
    | nil => simp at h
    | cons p al =>
      simp only [List.map_cons, List.cons.injEq, Prod.mk.injEq] at h
      obtain ⟨⟨h1, h2⟩, h3⟩ := h
      unfold Instr.findNow
      simp only [h1, Instr.sameNow, if_true, alFind]
      by_cases hk : k = p.1
      · subst hk; simp [h2]
      · have : (k == p.1) = false := by simpa using hk
        simp only [this, if_neg hk]
        exact ih al (i + 1) h3

theorem run_lookupK {κ : IntKind} {P : Program} {w : World} {t kt et : TypeId} {q : IntKind} {j : TI} {m : Nat} {es : Array MapEntry} {c : Nat} {al : List (Int × Value)} {k : Int} (ht : P.underlying t = some (.map kt et)) (hk : P.underlying kt = some (.int q)) (hj : TIok P et j)
    (hm : w.heap[m]? = some (.map es c)) (ha : IsMapK κ es al) : (Instr.lookup t (.map (some m)) (.int κ k) false).run P w = .ok ((alGet al k).getD j.zero) w := by
  have h1 := findNow_k (q := q) (k := k) es.toList al 0 ha.ents
  have hg := alFind_get k al 0
  have hc : ∀ em, (Instr.checkKey em 10000 kt (.int κ k)).run P w = .ok () w := fun em => by
    have key : ∀ n, (Instr.checkKey em (n + 1) kt (.int κ k)).run P w = .ok () w := fun n => by simp [Instr.checkKey, run_underlying hk]
    exact key 9999
  have hf : (Instr.findKey kt (.int κ k) es.toList).run P w = .ok (alFind al k 0) w := by simp [Instr.findKey, run_underlying hk, h1]
  cases hq : alFind al k 0 with
  | none =>
    rw [hq] at hg hf
    have : alGet al k = none := by simpa using hg.symm
    simp [Instr.lookup, run_underlying ht, MapKept.run_getObj_map hm, hc, hf, run_zero' hj, this, Result.andThen]
  | some p =>
    rw [hq] at hg hf
    have : alGet al k = some p.2 := by simpa using hg.symm
    simp [Instr.lookup, run_underlying ht, MapKept.run_getObj_map hm, hc, hf, this, Result.andThen]

theorem run_lookupOk {κ : IntKind} {P : Program} {w : World} {t kt et : TypeId} {q : IntKind} {j : TI} {m : Nat} {es : Array MapEntry} {c : Nat} {al : List (Int × Value)} {k : Int} (ht : P.underlying t = some (.map kt et)) (hk : P.underlying kt = some (.int q)) (hj : TIok P et j)
    (hm : w.heap[m]? = some (.map es c)) (ha : IsMapK κ es al) : (Instr.lookup t (.map (some m)) (.int κ k) true).run P w = .ok (.tuple #[(alGet al k).getD j.zero, .bool (alGet al k).isSome]) w := by
  have h1 := findNow_k (q := q) (k := k) es.toList al 0 ha.ents
  have hg := alFind_get k al 0
  have hc : ∀ em, (Instr.checkKey em 10000 kt (.int κ k)).run P w = .ok () w := fun em => by
    have key : ∀ n, (Instr.checkKey em (n + 1) kt (.int κ k)).run P w = .ok () w := fun n => by simp [Instr.checkKey, run_underlying hk]
    exact key 9999
  have hf : (Instr.findKey kt (.int κ k) es.toList).run P w = .ok (alFind al k 0) w := by simp [Instr.findKey, run_underlying hk, h1]
  cases hq : alFind al k 0 with
  | none =>
    rw [hq] at hg hf
    have : alGet al k = none := by simpa using hg.symm
    simp [Instr.lookup, run_underlying ht, MapKept.run_getObj_map hm, hc, hf, run_zero' hj, this, Result.andThen]
  | some p =>
    rw [hq] at hg hf
    have : alGet al k = some p.2 := by simpa using hg.symm
    simp [Instr.lookup, run_underlying ht, MapKept.run_getObj_map hm, hc, hf, this, Result.andThen]

theorem run_mapUpdateK {κ : IntKind} {P : Program} {w : World} {t kt et : TypeId} {q : IntKind} {m : Nat} {es : Array MapEntry} {c : Nat} {al : List (Int × Value)} {k : Int} {v : Value} (ht : P.underlying t = some (.map kt et)) (hk : P.underlying kt = some (.int q))
    (hm : w.heap[m]? = some (.map es c)) (ha : IsMapK κ es al) (hv : flatV v = true) : ∃ es' c', (Instr.mapUpdate t (.map (some m)) (.int κ k) v).run P w = .ok () (w.putObj m (.map es' c')) ∧ IsMapK κ es' (alPut al k v) := by
  have h1 := findNow_k (q := q) (k := k) es.toList al 0 ha.ents
  have hc : ∀ em, (Instr.checkKey em 10000 kt (.int κ k)).run P w = .ok () w := fun em => by
    have key : ∀ n, (Instr.checkKey em (n + 1) kt (.int κ k)).run P w = .ok () w := fun n => by simp [Instr.checkKey, run_underlying hk]
    exact key 9999
  have hf : (Instr.findKey kt (.int κ k) es.toList).run P w = .ok (alFind al k 0) w := by simp [Instr.findKey, run_underlying hk, h1]
  have hflat : ∀ p ∈ alPut al k v, flatV p.2 = true := fun p hp => by
    have key : ∀ l : List (Int × Value), (∀ p ∈ l, flatV p.2 = true) → ∀ p ∈ alPut l k v, flatV p.2 = true := by
      intro l
      induction l with
      | nil => intro _ p hp; simp [alPut] at hp; rw [hp]; exact hv
      | cons x l ih =>
        intro hl p hp
        unfold alPut at hp
        split at hp
        · rcases List.mem_cons.1 hp with rfl | hp
          · exact hv
          · exact hl p (List.mem_cons_of_mem _ hp)
        · rcases List.mem_cons.1 hp with rfl | hp
          · exact hl p (by simp)
          · exact ih (fun p hp => hl p (List.mem_cons_of_mem _ hp)) p hp
    exact key al ha.flat p hp
  cases hq : alFind al k 0 with
  | none =>
    rw [hq] at hf
    refine ⟨es.push ⟨.int κ k, v, c⟩, c + 1, ?_, ?_, hflat⟩
    · simp [Instr.mapUpdate, run_underlying ht, MapKept.run_getObj_map hm, hc, hf, MapKept.run_setObj_map _ hm, Result.andThen, World.putObj]
    · rw [alFind_none v hq]
      simp [ha.ents]
  | some p =>
    obtain ⟨j, u⟩ := p
    rw [hq] at hf
    obtain ⟨_, g2, g3, g4⟩ := alFind_some v hq
    simp only [Nat.sub_zero] at g2 g3 g4
    have hlen : es.size = al.length := by have := congrArg List.length ha.ents; simpa using this
    have hje : ∃ e, es[j]? = some e ∧ e.key = .int κ k := by
      refine ⟨es[j], Array.getElem?_eq_getElem (by omega), ?_⟩
      have := congrArg (·[j]?) ha.ents
      simp only [List.getElem?_map, g3, Option.map_some] at this
      rw [Array.getElem?_toList, Array.getElem?_eq_getElem (by omega)] at this
      simp at this
      exact this.1
    obtain ⟨e, he, hek⟩ := hje
    have hst : (Instr.keyThatStays (.int κ k) (.int κ k)).run P w = .ok (.int κ k) w := by simp [Instr.keyThatStays, Instr.sameBits]
    refine ⟨es.modify j fun e => { e with key := .int κ k, val := v }, c, ?_, ?_, hflat⟩
    · simp [Instr.mapUpdate, run_underlying ht, MapKept.run_getObj_map hm, hc, hf, he, hek, hst, MapKept.run_setObj_map _ hm, Result.andThen, World.putObj]
    · rw [g4]
      apply List.ext_getElem?
      intro i
      have hi := congrArg (·[i]?) ha.ents
      simp only [List.getElem?_map, Array.getElem?_toList] at hi
      simp only [List.getElem?_map, Array.getElem?_toList, List.getElem?_set, Array.getElem?_modify]
      by_cases hij : j = i
      · subst hij
        simp [he, g2]
      · simp only [if_neg hij]
        exact hi

/-- A map looked at. -/
theorem LVal.lookupK {κ : IntKind} {G : Ctx} {D : Tab} (hD : TabOK G.P D) {o : Oper} {T : Nat → TV} {S : LS} {t kt et : TypeId} {x ix : Operand} {m : Nat} {k : Int} {q : IntKind} {i ik j : TI} {al : List (Int × Value)} (ho : o.op = .lookup t x ix false)
    (hx : lev T x = .one (.v (.map (some m)))) (hix : lev T ix = .one (.v (.int κ k))) (hi : D.get t = some i) (hd : i.desc = .map kt et) (hk : D.get kt = some ik) (hdk : ik.desc = .int q) (hj : D.get et = some j) (hz : flatV j.zero = true) (hm : MapK κ S m al)
    {v : Value} (hv : (alGet al k).getD j.zero = v) {r : TV} (hr : rawTV v = r) : LVal G o T S r :=
  .of_run fun K w ac hinv hr' => by
    have h1 := hr' x (by rw [ho]; simp [Op.operands])
    have h2 := hr' ix (by rw [ho]; simp [Op.operands])
    rw [hx] at h1
    rw [hix] at h2
    obtain ⟨es, c, hb, ha⟩ := hm
    obtain ⟨_, _, hh, _⟩ := hinv.obj m _ hb
    have e1 := (hD.get hi).und
    rw [hd] at e1
    have e2 := (hD.get hk).und
    rw [hdk] at e2
    have := run_lookupK (w := w) (k := k) e1 e2 (hD.get hj) hh ha
    rw [hv] at this
    refine ⟨v, ?_, ?_⟩
    · simp only [execOp, ho, h1.flat, h2.flat, Sem.run_bind, this, Result.andThen_ok, Sem.run_pure]
    · rw [← hr]
      refine rawTV_rep ?_
      rw [← hv]
      cases hq : alGet al k with
      | none => exact hz
      | some u =>
        have : ∃ p ∈ al, p.2 = u := by
          clear hv this ha hb
          induction al with
          | nil => cases hq
          | cons p al ih =>
            simp only [alGet] at hq
            split at hq
            · exact ⟨p, by simp, by simpa using hq⟩
            · obtain ⟨p', h1, h2⟩ := ih hq; exact ⟨p', List.mem_cons_of_mem _ h1, h2⟩
        obtain ⟨p, hp, rfl⟩ := this
        exact ha.flat p hp

/-- A map written. -/
theorem LDo.mapUpdateK {κ : IntKind} {G : Ctx} {D : Tab} (hD : TabOK G.P D) {o : Oper} {T : Nat → TV} {S : LS} {t kt et : TypeId} {x ix y : Operand} {m : Nat} {k : Int} {q : IntKind} {i ik : TI} {al : List (Int × Value)} {v : Value} (ho : o.op = .mapUpdate t x ix y)
    (hx : lev T x = .one (.v (.map (some m)))) (hix : lev T ix = .one (.v (.int κ k))) (hi : D.get t = some i) (hd : i.desc = .map kt et) (hk : D.get kt = some ik) (hdk : ik.desc = .int q) (hy : lev T y = rawTV v) (hvf : flatV v = true) (hm : MapK κ S m al) :
    LDo G o T S (fun r S' => r = .tup [] ∧ ∃ o, S' = S.setObj m o ∧ MapK κ S' m (alPut al k v)) := by
  intro K w ac hinv hr'
  have h1 := hr' x (by rw [ho]; simp [Op.operands])
  have h2 := hr' ix (by rw [ho]; simp [Op.operands])
  have h3 := hr' y (by rw [ho]; simp [Op.operands])
  rw [hx] at h1
  rw [hix] at h2
  rw [hy] at h3
  have hyv : ac.eval y = v := by
    generalize ac.eval y = u at h3
    unfold rawTV at h3
    split at h3
    · rename_i cs
      obtain ⟨vs, rfl, g1, g2⟩ := h3.agg_inv
      congr 1
      refine Array.ext (by simpa using g1) fun j hj1 hj2 => ?_
      have := g2 j _ vs[j] (by rw [List.getElem?_map]; rw [Array.getElem?_toList, Array.getElem?_eq_getElem hj2]; rfl) (Array.getElem?_eq_getElem hj1)
      generalize vs[j] = u at this
      cases this; rfl
    · exact h3.flat
  obtain ⟨es, c, hb, ha⟩ := hm
  obtain ⟨b1, b2, hh, b3, b4⟩ := hinv.obj m _ hb
  have e1 := (hD.get hi).und
  rw [hd] at e1
  have e2 := (hD.get hk).und
  rw [hdk] at e2
  obtain ⟨es', c', hrun, ha'⟩ := run_mapUpdateK (w := w) (k := k) (v := v) e1 e2 hh ha hvf
  have hlt : m < w.heap.size := (Array.getElem?_eq_some_iff.1 hh).1
  obtain ⟨j1, j2⟩ := hinv.putObj (o' := .map es' c') b1 hlt hh b3 rfl (by simp) b4
  unfold Oper.wp
  simp only [execOp, ho, h1.flat, h2.flat, hyv, Sem.run_bind, hrun, Result.andThen_ok, Sem.run_pure]
  exact ⟨.tup [], undef, S.setObj m (.map es' c'), K, rfl, .tup [] #[] rfl (by simp), j1, j2, rfl, _, rfl, es', c', setObj_obj _ _ _, ha'⟩

theorem MapK.new (κ : IntKind) (S : LS) (m : Nat) : MapK κ (S.setObj m (.map #[] 0)) m [] := ⟨#[], 0, setObj_obj _ _ _, IsMapK.empty⟩
theorem MapK.obj {κ : IntKind} {S S' : LS} {m : Nat} {al : List (Int × Value)} (h : MapK κ S m al) (k : ∀ o, S.obj m = some o → S'.obj m = some o) : MapK κ S' m al := by
  obtain ⟨es, c, h1, h2⟩ := h
  exact ⟨es, c, k _ h1, h2⟩

/-- A map looked at, with a word whether it is there. -/
theorem LVal.lookupOk {κ : IntKind} {G : Ctx} {D : Tab} (hD : TabOK G.P D) {o : Oper} {T : Nat → TV} {S : LS} {t kt et : TypeId} {x ix : Operand} {m : Nat} {k : Int} {q : IntKind} {i ik j : TI} {al : List (Int × Value)} (hm : MapK κ S m al) (ho : o.op = .lookup t x ix true)
    (hx : lev T x = .one (.v (.map (some m)))) (hix : lev T ix = .one (.v (.int κ k))) (hi : D.get t = some i) (hd : i.desc = .map kt et) (hk : D.get kt = some ik) (hdk : ik.desc = .int q) (hj : D.get et = some j)
    {v : Value} (hv : (alGet al k).getD j.zero = v) (h1c : v.oneCell' = true) : LVal G o T S (.tup [.one (.v v), .one (.v (.bool (alGet al k).isSome))]) :=
  .of_run fun K w ac hinv hr' => by
    have h1 := hr' x (by rw [ho]; simp [Op.operands])
    have h2 := hr' ix (by rw [ho]; simp [Op.operands])
    rw [hx] at h1
    rw [hix] at h2
    obtain ⟨es, c, hb, ha⟩ := hm
    obtain ⟨_, _, hh, _⟩ := hinv.obj m _ hb
    have e1 := (hD.get hi).und
    rw [hd] at e1
    have e2 := (hD.get hk).und
    rw [hdk] at e2
    have := run_lookupOk (w := w) (k := k) e1 e2 (hD.get hj) hh ha
    rw [hv] at this
    refine ⟨.tuple #[v, .bool (alGet al k).isSome], ?_, .tup _ _ rfl fun n y u hy hu => ?_⟩
    · simp only [execOp, ho, h1.flat, h2.flat, Sem.run_bind, this, Result.andThen_ok, Sem.run_pure]
    · match n, hy, hu with
      | 0, rfl, hu => obtain rfl : v = u := by simpa using hu
                      exact .one (.raw _ h1c)
      | 1, rfl, hu => obtain rfl : Value.bool (alGet al k).isSome = u := by simpa using hu
                      exact .one (.raw _ rfl)
      | n + 2, hy, _ => simp at hy

/-- How many a map has. -/
theorem LVal.lenMap {κ : IntKind} {G : Ctx} {D : Tab} (hD : TabOK G.P D) {o : Oper} {T : Nat → TV} {S : LS} {t kt et : TypeId} {x : Operand} {m : Nat} {i : TI} {al : List (Int × Value)} (hm : MapK κ S m al) (ho : o.op = .call { callee := .builtin .len, args := #[x], argTypes := #[t] })
    (hx : lev T x = .one (.v (.map (some m)))) (hi : D.get t = some i) (hd : i.desc = .map kt et) : LVal G o T S (.one (iv (al.length : Nat))) :=
  .of_run fun K w ac hinv hr' => by
    have h1 := hr' x (by rw [ho]; simp [Op.operands, Call.operands])
    rw [hx] at h1
    obtain ⟨es, c, hb, ha⟩ := hm
    obtain ⟨_, _, hh, _⟩ := hinv.obj m _ hb
    have e1 := (hD.get hi).und
    rw [hd] at e1
    have hlen : es.size = al.length := by have := congrArg List.length ha.ents; simpa using this
    refine ⟨.int .i64 (al.length : Nat), ?_, .raw rfl⟩
    simp [execOp, ho, resolve, invoke, builtin, Builtin.len_, h1.flat, run_underlying e1, MapKept.run_getObj_map hh, goInt, hlen]

theorem map_eraseIdx' {α β : Type} (f : α → β) (l : List α) (j : Nat) : (l.eraseIdx j).map f = (l.map f).eraseIdx j := by
  induction l generalizing j with
  | nil => rfl
  | cons a l ih => cases j with
    | zero => rfl
    | succ j => simp [ih]
/-- A key is taken out. -/
def alDel : List (Int × Value) → Int → List (Int × Value)
  | [], _ => []
  | p :: l, k => if k = p.1 then l else p :: alDel l k
theorem alDel_none {k : Int} : ∀ {l : List (Int × Value)} {i : Nat}, alFind l k i = none → alDel l k = l
  | [], i, _ => rfl
  | p :: l, i, h => by
    simp only [alFind] at h
    split at h
    · cases h
    · rename_i hn
      simp only [alDel, if_neg hn, alDel_none h]
theorem alDel_some {k : Int} : ∀ {l : List (Int × Value)} {i j : Nat} {u : Value}, alFind l k i = some (j, u) → i ≤ j ∧ alDel l k = l.eraseIdx (j - i)
  | [], i, j, u, h => by cases h
  | p :: l, i, j, u, h => by
    simp only [alFind] at h
    split at h
    · rename_i hk
      obtain ⟨rfl, rfl⟩ : i = j ∧ p.2 = u := by simpa using h
      simp [alDel, hk]
    · rename_i hk
      obtain ⟨h1, h2⟩ := alDel_some h
      obtain ⟨q, rfl⟩ : ∃ q, j = i + 1 + q := ⟨j - (i + 1), by omega⟩
      refine ⟨by omega, ?_⟩
      rw [show i + 1 + q - i = q + 1 by omega]
      rw [show i + 1 + q - (i + 1) = q by omega] at h2
      simp only [alDel, if_neg hk, h2, List.eraseIdx_cons_succ]
theorem LDo.mapDelete {κ : IntKind} {G : Ctx} {D : Tab} (hD : TabOK G.P D) {o : Oper} {T : Nat → TV} {S : LS} {t kt et : TypeId} {ts : Array TypeId} {x ix : Operand} {m : Nat} {k : Int} {q : IntKind} {i ik : TI} {al : List (Int × Value)} (hm : MapK κ S m al) (ho : o.op = .call { callee := .builtin .delete, args := #[x, ix], argTypes := ts }) (hts : ts[0]? = some t)
    (hx : lev T x = .one (.v (.map (some m)))) (hix : lev T ix = .one (.v (.int κ k))) (hi : D.get t = some i) (hd : i.desc = .map kt et) (hk : D.get kt = some ik) (hdk : ik.desc = .int q) :
    LDo G o T S (fun r S' => r = .tup [] ∧ ∃ o, S' = S.setObj m o ∧ MapK κ S' m (alDel al k)) := by
  refine .of_run fun K w ac hinv hr' => ?_
  have h1 := hr' x (by rw [ho]; simp [Op.operands, Call.operands])
  have h2 := hr' ix (by rw [ho]; simp [Op.operands, Call.operands])
  rw [hx] at h1
  rw [hix] at h2
  obtain ⟨es, c, hb, ha⟩ := hm
  obtain ⟨b1, b2, hh, b3, b4⟩ := hinv.obj m _ hb
  have e1 := (hD.get hi).und
  rw [hd] at e1
  have e2 := (hD.get hk).und
  rw [hdk] at e2
  have f1 := findNow_k (q := q) (k := k) es.toList al 0 ha.ents
  have hc : ∀ em, (Instr.checkKey em 10000 kt (.int κ k)).run G.P w = .ok () w := fun em => by
    have key : ∀ n, (Instr.checkKey em (n + 1) kt (.int κ k)).run G.P w = .ok () w := fun n => by simp [Instr.checkKey, run_underlying e2]
    exact key 9999
  have hf : (Instr.findKey kt (.int κ k) es.toList).run G.P w = .ok (alFind al k 0) w := by simp [Instr.findKey, run_underlying e2, f1]
  have hlt : m < w.heap.size := (Array.getElem?_eq_some_iff.1 hh).1
  have hflat : ∀ p ∈ alDel al k, flatV p.2 = true := fun p hp => by
    have key : ∀ l : List (Int × Value), (∀ p ∈ l, flatV p.2 = true) → ∀ p ∈ alDel l k, flatV p.2 = true := by
      intro l
      induction l with
      | nil => intro _ p hp; cases hp
      | cons x l ih =>
        intro hl p hp
        unfold alDel at hp
        split at hp
        · exact hl p (List.mem_cons_of_mem _ hp)
        · rcases List.mem_cons.1 hp with rfl | hp
          · exact hl p (by simp)
          · exact ih (fun p hp => hl p (List.mem_cons_of_mem _ hp)) p hp
    exact key al ha.flat p hp
  have fin : ∀ es', IsMapK κ es' (alDel al k) → (Builtin.delete_ ts o.type #[.map (some m), .int κ k]).run G.P w = .ok (.tuple #[]) (w.putObj m (.map es' c)) → ∃ r v S' K' w', (execOp ac.eval o).run G.P w = .ok (.value v) w' ∧ RepT G w' K' r v ∧ Inv G S' K' w' ∧ Ext K w K' w' ∧ (r = .tup [] ∧ ∃ o, S' = S.setObj m o ∧ MapK κ S' m (alDel al k)) := fun es' ha' hrun => by
    obtain ⟨j1, j2⟩ := hinv.putObj (o' := .map es' c) b1 hlt hh b3 rfl (by simp) b4
    refine ⟨.tup [], .tuple #[], S.setObj m (.map es' c), K, _, ?_, .tup [] #[] rfl (by simp), j1, j2, rfl, _, rfl, es', c, setObj_obj _ _ _, ha'⟩
    have e5 : (Builtin.delete_ ts o.type #[ac.eval x, ac.eval ix]).run G.P w = .ok (.tuple #[]) (w.putObj m (.map es' c)) := by rw [h1.flat, h2.flat]; exact hrun
    simp [execOp, ho, resolve, invoke, builtin, e5]
  cases hq : alFind al k 0 with
  | none =>
    rw [hq] at hf
    refine fin es (by rw [alDel_none hq]; exact ha) ?_
    simp [Builtin.delete_, hts, run_underlying e1, MapKept.run_getObj_map hh, hc, hf, MapKept.run_setObj_map _ hh, Result.andThen, World.putObj]
  | some p =>
    obtain ⟨j, u⟩ := p
    rw [hq] at hf
    obtain ⟨_, g⟩ := alDel_some hq
    rw [Nat.sub_zero] at g
    refine fin (es.eraseIdxIfInBounds j) ⟨?_, hflat⟩ ?_
    · rw [g, Array.toList_eraseIdxIfInBounds, map_eraseIdx', ha.ents, ← map_eraseIdx']
    · simp [Builtin.delete_, hts, run_underlying e1, MapKept.run_getObj_map hh, hc, hf, MapKept.run_setObj_map _ hh, Result.andThen, World.putObj]
end Go.Proofs.Ytinbibeapooghaa.LF
