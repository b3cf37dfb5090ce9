/- Parts of the frame, one behind the other: LLs LLt LLu LLv. (Printed by merge.py.) -/
import Derived.Test.YtandbjhedkgldaaLLr
section
/- The document's ids and in; what its rows answer. -/
namespace Go.Proofs.Ytandbjhedkgldaa.LF
open Go.RowKit H
set_option linter.unusedVariables false
attribute [local irreducible] andThen inBlock LWp LOps LCalls

def inS (l : List Int) (n : Int) : Bool := l.any fun x => x == n
theorem inS_iff {l : List Int} {n : Int} : inS l n = true ↔ n ∈ l := by simp [inS]
set_option maxHeartbeats 4000000 in
theorem in_F {G : Ctx} (hP : G.P = Try.prog) (l : List Int) (n : Int) (hl : l.length ≤ 1000) :
    LFun G 63 [.one (.sl .sh (iL l)), .one (iv n)] (.one (bv (inS l n))) := LFun.of fun S => by
  have hD : TabOK G.P D := by rw [hP]; exact hD0
  have him : (iL l).length = l.length := List.length_map ..
  refine LCalls.enter (fn := Try.f63) (by rw [hP]; exact Try.func63) rfl rfl ?_
  repeat (first | refine LOps.nil ?_ | refine andThen_normal ?_ | refine andThen_exit ?_ | refine andThen_ret ?_ | refine inBlock_normal ?_ | refine inBlock_ret ?_ | refine inBlock_here ?_ | refine inBlock_out rfl ?_ | refine LWp.seq ?_ | refine LWp.region ?_ | refine LWp.block ?_ | refine LWp.exit ?_ | refine LWp.ret ?_ | refine LWp.skip ?_ | refine LOps.valA ?_ | refine LOps.outA ?_ | refine LOps.whenA ?_ | refine LOps.pickA ?_ | refine LOps.storeA ?_)
  refine LWp.loop (fun m T S' => S' = S ∧ ∃ (T' : Nat → TV) (j : Nat), j ≤ l.length ∧ m = l.length - j ∧ (∀ (i : Nat) (hi : i < j) (h1 : i < l.length), (l[i] == n) = false) ∧ T = over T' [(0, .one (.sl .sh (iL l))), (1, .one (iv n)), (5, .one (iv (j : Nat)))]) l.length ?_ ?_
  · exact ⟨rfl, _, 0, by omega, by omega, fun i hi => by omega, holds.over ⟨rfl, rfl, rfl, trivial⟩⟩
  rintro m T S ⟨rfl, T', j, hj, rfl, hno, rfl⟩
  repeat (first | refine LOps.nil ?_ | refine andThen_normal ?_ | refine andThen_exit ?_ | refine andThen_ret ?_ | refine inBlock_normal ?_ | refine inBlock_ret ?_ | refine inBlock_here ?_ | refine inBlock_out rfl ?_ | refine LWp.seq ?_ | refine LWp.region ?_ | refine LWp.block ?_ | refine LWp.exit ?_ | refine LWp.ret ?_ | refine LWp.skip ?_ | refine LOps.valA ?_ | refine LOps.outA ?_ | refine LOps.whenA ?_ | refine LOps.pickA ?_ | refine LOps.storeA ?_)
  refine LWp.cond rfl (fun h => ?_) (fun h => ?_)
  · have hlt : j < l.length := by rw [him] at h; simpa using h
    repeat (first | refine LOps.nil ?_ | refine andThen_normal ?_ | refine andThen_exit ?_ | refine andThen_ret ?_ | refine inBlock_normal ?_ | refine inBlock_ret ?_ | refine inBlock_here ?_ | refine inBlock_out rfl ?_ | refine LWp.seq ?_ | refine LWp.region ?_ | refine LWp.block ?_ | refine LWp.exit ?_ | refine LWp.ret ?_ | refine LWp.skip ?_ | refine LOps.valA ?_ | refine LOps.outA ?_ | refine LOps.whenA ?_ | refine LOps.pickA ?_ | refine LOps.storeA ?_)
    refine LWp.cond rfl (fun h => ?_) (fun h => ?_)
    · have h : (l[j] == n) = true := h
      have e : inS l n = true := any_at hlt h
      rw [e]
      repeat (first | refine LOps.nil ?_ | refine andThen_normal ?_ | refine andThen_exit ?_ | refine andThen_ret ?_ | refine inBlock_normal ?_ | refine inBlock_ret ?_ | refine inBlock_here ?_ | refine inBlock_out rfl ?_ | refine LWp.seq ?_ | refine LWp.region ?_ | refine LWp.block ?_ | refine LWp.exit ?_ | refine LWp.ret ?_ | refine LWp.skip ?_ | refine LOps.valA ?_ | refine LOps.outA ?_ | refine LOps.whenA ?_ | refine LOps.pickA ?_ | refine LOps.storeA ?_)
      exact ⟨_, LRes.one rfl, rfl, .refl _⟩
    have h : (l[j] == n) = false := h
    repeat (first | refine LOps.nil ?_ | refine andThen_normal ?_ | refine andThen_exit ?_ | refine andThen_ret ?_ | refine inBlock_normal ?_ | refine inBlock_ret ?_ | refine inBlock_here ?_ | refine inBlock_out rfl ?_ | refine LWp.seq ?_ | refine LWp.region ?_ | refine LWp.block ?_ | refine LWp.exit ?_ | refine LWp.ret ?_ | refine LWp.skip ?_ | refine LOps.valA ?_ | refine LOps.outA ?_ | refine LOps.whenA ?_ | refine LOps.pickA ?_ | refine LOps.storeA ?_)
    refine ⟨l.length - (j + 1), by omega, rfl, _, j + 1, by omega, rfl, fun i hi h1 => ?_, holds.over ⟨rfl, rfl, rfl, trivial⟩⟩
    by_cases e : i = j
    · subst e; exact h
    · exact hno i (by omega) h1
  · have hge : j = l.length := by rw [him] at h; simp at h; omega
    subst hge
    have e : inS l n = false := any_of (fun i hi => hno i hi hi)
    rw [e]
    repeat (first | refine LOps.nil ?_ | refine andThen_normal ?_ | refine andThen_exit ?_ | refine andThen_ret ?_ | refine inBlock_normal ?_ | refine inBlock_ret ?_ | refine inBlock_here ?_ | refine inBlock_out rfl ?_ | refine LWp.seq ?_ | refine LWp.region ?_ | refine LWp.block ?_ | refine LWp.exit ?_ | refine LWp.ret ?_ | refine LWp.skip ?_ | refine LOps.valA ?_ | refine LOps.outA ?_ | refine LOps.whenA ?_ | refine LOps.pickA ?_ | refine LOps.storeA ?_)
    exact ⟨_, LRes.one rfl, rfl, .refl _⟩

set_option maxHeartbeats 4000000 in
theorem ids_F {G : Ctx} (hP : G.P = Try.prog) (l : List Ev) (hl : l.length ≤ 1000) :
    LFun G 42 [.one (.sl .sh (l.map evL))] (.one (.sl .sh (iL (idsS l)))) := LFun.of fun S => by
  have hD : TabOK G.P D := by rw [hP]; exact hD0
  have hin : ∀ j, (idsS (l.take j)).length ≤ 1000 := fun j => by
    unfold idsS; rw [List.length_map]
    exact Nat.le_trans (List.length_filter_le _ _) (by rw [List.length_take]; omega)
  refine LCalls.enter (fn := Try.f42) (by rw [hP]; exact Try.func42) rfl rfl ?_
  repeat (first | refine LOps.nil ?_ | refine andThen_normal ?_ | refine andThen_exit ?_ | refine andThen_ret ?_ | refine inBlock_normal ?_ | refine inBlock_ret ?_ | refine inBlock_here ?_ | refine inBlock_out rfl ?_ | refine LWp.seq ?_ | refine LWp.region ?_ | refine LWp.block ?_ | refine LWp.exit ?_ | refine LWp.ret ?_ | refine LWp.skip ?_ | refine LOps.valA ?_ | refine LOps.outA ?_ | refine LOps.whenA ?_ | refine LOps.pickA ?_ | refine LOps.storeA ?_)
  refine LWp.loop (fun k T S' => ∃ T' j o', j ≤ l.length ∧ k = l.length - j ∧ S.le S' ∧ Owned S' 3 (idsS (l.take j)).length o' ∧ Out S o' ∧ T = over T' [(0, .one (.sl .sh (l.map evL))), (3, .one (.sl o' (iL (idsS (l.take j))))), (4, .one (iv j))]) l.length ?_ ?_
  · exact ⟨_, 0, .nil, by omega, by omega, .refl _, rfl, .nil _, holds.over ⟨rfl, rfl, rfl, trivial⟩⟩
  rintro k T S' ⟨T', j, o', hj, rfl, hle, hown, hout, rfl⟩
  have hjl := hin j
  repeat (first | refine LOps.nil ?_ | refine andThen_normal ?_ | refine andThen_exit ?_ | refine andThen_ret ?_ | refine inBlock_normal ?_ | refine inBlock_ret ?_ | refine inBlock_here ?_ | refine inBlock_out rfl ?_ | refine LWp.seq ?_ | refine LWp.region ?_ | refine LWp.block ?_ | refine LWp.exit ?_ | refine LWp.ret ?_ | refine LWp.skip ?_ | refine LOps.valA ?_ | refine LOps.outA ?_ | refine LOps.whenA ?_ | refine LOps.pickA ?_ | refine LOps.storeA ?_)
  refine LWp.cond rfl (fun h => ?_) (fun h => ?_)
  · have hlt : j < l.length := by simpa using h
    have e1 : idsS (l.take (j + 1)) = idsS (l.take j) ++ if l[j].kind == 1 then [l[j].id] else [] := by rw [List.take_succ_eq_append_getElem hlt, idsS_snoc]
    repeat (first | refine LOps.nil ?_ | refine andThen_normal ?_ | refine andThen_exit ?_ | refine andThen_ret ?_ | refine inBlock_normal ?_ | refine inBlock_ret ?_ | refine inBlock_here ?_ | refine inBlock_out rfl ?_ | refine LWp.seq ?_ | refine LWp.region ?_ | refine LWp.block ?_ | refine LWp.exit ?_ | refine LWp.ret ?_ | refine LWp.skip ?_ | refine LOps.valA ?_ | refine LOps.outA ?_ | refine LOps.whenA ?_ | refine LOps.pickA ?_ | refine LOps.storeA ?_)
    refine LWp.cond rfl (fun h => ?_) (fun h => ?_)
    · have h : (l[j].kind == 1) = true := h
      repeat (first | refine LOps.nil ?_ | refine andThen_normal ?_ | refine andThen_exit ?_ | refine andThen_ret ?_ | refine inBlock_normal ?_ | refine inBlock_ret ?_ | refine inBlock_here ?_ | refine inBlock_out rfl ?_ | refine LWp.seq ?_ | refine LWp.region ?_ | refine LWp.block ?_ | refine LWp.exit ?_ | refine LWp.ret ?_ | refine LWp.skip ?_ | refine LOps.valA ?_ | refine LOps.outA ?_ | refine LOps.whenA ?_ | refine LOps.pickA ?_ | refine LOps.storeA ?_)
      refine LOps.do (LDo.push hD rfl rfl rfl rfl rfl rfl rfl rfl rfl rfl (show _ = (idsS (l.take j)).length by simp) hown (by omega)) rfl rfl rfl ?_
      rintro _ S3 ⟨o3, rfl, own3, hup, hno⟩
      repeat (first | refine LOps.nil ?_ | refine andThen_normal ?_ | refine andThen_exit ?_ | refine andThen_ret ?_ | refine inBlock_normal ?_ | refine inBlock_ret ?_ | refine inBlock_here ?_ | refine inBlock_out rfl ?_ | refine LWp.seq ?_ | refine LWp.region ?_ | refine LWp.block ?_ | refine LWp.exit ?_ | refine LWp.ret ?_ | refine LWp.skip ?_ | refine LOps.valA ?_ | refine LOps.outA ?_ | refine LOps.whenA ?_ | refine LOps.pickA ?_ | refine LOps.storeA ?_)
      refine ⟨l.length - (j + 1), by omega, _, j + 1, o3, by omega, rfl, hle.upto hup hout, ?_, hout.next hle hno, holds.over ⟨rfl, ?_, rfl, trivial⟩⟩
      · rw [e1, if_pos h]; exact own3.ofN (by simp)
      · rw [e1, if_pos h]; exact Eq.trans rfl (congrArg (fun x => TV.one (LV.sl o3 x)) (List.map_append (f := fun x => [iv x]) (l₁ := idsS (l.take j)) (l₂ := [l[j].id])).symm)
    · have h : (l[j].kind == 1) = false := h
      repeat (first | refine LOps.nil ?_ | refine andThen_normal ?_ | refine andThen_exit ?_ | refine andThen_ret ?_ | refine inBlock_normal ?_ | refine inBlock_ret ?_ | refine inBlock_here ?_ | refine inBlock_out rfl ?_ | refine LWp.seq ?_ | refine LWp.region ?_ | refine LWp.block ?_ | refine LWp.exit ?_ | refine LWp.ret ?_ | refine LWp.skip ?_ | refine LOps.valA ?_ | refine LOps.outA ?_ | refine LOps.whenA ?_ | refine LOps.pickA ?_ | refine LOps.storeA ?_)
      refine ⟨l.length - (j + 1), by omega, _, j + 1, o', by omega, rfl, hle, ?_, hout, holds.over ⟨rfl, ?_, rfl, trivial⟩⟩
      · rw [e1, if_neg (by rw [h]; simp), List.append_nil]; exact hown
      · rw [e1, if_neg (by rw [h]; simp), List.append_nil]; rfl
  · have hge : l.length ≤ j := by simpa using h
    repeat (first | refine LOps.nil ?_ | refine andThen_normal ?_ | refine andThen_exit ?_ | refine andThen_ret ?_ | refine inBlock_normal ?_ | refine inBlock_ret ?_ | refine inBlock_here ?_ | refine inBlock_out rfl ?_ | refine LWp.seq ?_ | refine LWp.region ?_ | refine LWp.block ?_ | refine LWp.exit ?_ | refine LWp.ret ?_ | refine LWp.skip ?_ | refine LOps.valA ?_ | refine LOps.outA ?_ | refine LOps.whenA ?_ | refine LOps.pickA ?_ | refine LOps.storeA ?_)
    refine ⟨_, LRes.sh (LRes.one rfl), ?_, hle⟩
    rw [List.take_of_length_le hge]; rfl

/-- The state that the document tells of one that is begun. -/
def stOf (l : List Ev) (id : Int) : Int := stN (hasE l 1 id) (hasE l 2 id) (hasE l 3 id)
theorem stOf_lt {l : List Ev} (st : Steps l) {id : Int} (h : hasE l 1 id = true) : decide (stOf l id < 3) = !hasE l 3 id := by
  unfold stOf stN
  rw [h]
  cases h3 : hasE l 3 id with
  | true => rw [st.m id h3]; rfl
  | false => cases hasE l 2 id <;> rfl
def wholeR (l : List Ev) (ids row : List Int) : Bool := ids.all fun id => decide (stOf l id < 3) || inS row id
def freeR (l : List Ev) (ids row : List Int) (id : Int) : Bool := ids.all fun k => inS row k || !aheadS l k id
/-- Does it go into the map? -/
def movesR (l : List Ev) (id : Int) : Bool := decide (stOf l id < 3) || !idleS (answerS l id)
def nextR (l : List Ev) (m : List Pr) (id : Int) : List Pr := if movesR l id = true then doM m (opOf l id) else m
def wrongR (l : List Ev) (m : List Pr) (id : Int) : Bool := movesR l id && ((stOf l id == 3) && !decide (doA m (opOf l id) = answerS l id))
def rowsS (l : List Ev) (ids : List Int) : Nat → List Pr → List Int → Bool
  | 0, _, _ => true
  | n + 1, m, row => wholeR l ids row || ids.any fun id => !inS row id && (freeR l ids row id && (!wrongR l m id && rowsS l ids n (nextR l m id) (row ++ [id])))
end Go.Proofs.Ytandbjhedkgldaa.LF
end

section
/- Plain: the document's rows answer as linear.Some's closure does. -/
namespace Go.Proofs.Ytandbjhedkgldaa.LF
open Go.RowKit H
set_option linter.unusedVariables false

theorem stOf_eq {l : List Ev} (st : Steps l) {id : Int} (h : hasE l 1 id = true) : (stOf l id == 3) = hasE l 3 id := by
  unfold stOf stN
  rw [h]
  cases h3 : hasE l 3 id with
  | true => rw [st.m id h3]; rfl
  | false => cases hasE l 2 id <;> rfl
theorem next_iff {l : List Ev} (st : Steps l) {id : Int} (hb : hasE l 1 id = true) {x : One} (a1 : x.op = opOf l id) (a2 : x.ended = hasE l 3 id) (a3 : x.ended = true → x.a = answerS l id) (m m' : List Pr) :
    Next x m m' ↔ wrongR l m id = false ∧ m' = nextR l m id := by
  have e1 := stOf_lt st hb
  have e2 := stOf_eq st hb
  unfold Next wrongR nextR movesR
  rw [e1, e2, a1, ← a2]
  cases hx : x.ended with
  | false => simp
  | true =>
    rw [a3 hx]
    cases hi : idleS (answerS l id) with
    | true => simp
    | false => simp
theorem free_iff {l : List Ev} {ids row : List Int} {x : One} {id : Int} {t : Nat} (hah : ∀ q, x.ahead.testBit q = true ↔ ∃ id', ids[q]? = some id' ∧ aheadS l id' id = true)
    (ht : ∀ q, t.testBit q = true ↔ ∃ id', ids[q]? = some id' ∧ id' ∈ row) : blocked x.ahead t = false ↔ freeR l ids row id = true := by
  have e : blocked x.ahead t = false ↔ ∀ q, x.ahead.testBit q = true → t.testBit q = true := by
    constructor
    · intro h q hq
      have h1 : x.ahead &&& t = x.ahead := by simpa [blocked] using h
      have := congrArg (fun z => z.testBit q) h1
      simp only [Nat.testBit_and, hq, Bool.true_and] at this
      exact this
    · intro h
      have : x.ahead &&& t = x.ahead := by
        refine Nat.eq_of_testBit_eq fun q => ?_
        rw [Nat.testBit_and]
        cases hq : x.ahead.testBit q with
        | false => rfl
        | true => rw [h q hq]; rfl
      simp [blocked, this]
  rw [e, freeR, List.all_eq_true]
  constructor
  · intro h k hk
    obtain ⟨q, hq, rfl⟩ := List.getElem_of_mem hk
    rw [Bool.or_eq_true, inS_iff]
    cases ha : aheadS l ids[q] id with
    | false => exact .inr rfl
    | true =>
      obtain ⟨id', g1, g2⟩ := (ht q).1 (h q ((hah q).2 ⟨ids[q], List.getElem?_eq_getElem hq, ha⟩))
      rw [List.getElem?_eq_getElem hq] at g1
      obtain rfl := Option.some.inj g1
      exact .inl g2
  · intro h q hq
    obtain ⟨id', g1, g2⟩ := (hah q).1 hq
    have := h id' (List.mem_of_getElem? g1)
    rw [g2, Bool.or_eq_true, inS_iff] at this
    rcases this with h1 | h1
    · exact (ht q).2 ⟨id', g1, h1⟩
    · cases h1

theorem rows_iff {l : List Ev} (R : Right l) (h7 : (foldO l).all.length ≤ 7) : ∀ (n t : Nat) (m : List Pr) (row : List Int), t < 128 → cnt (foldO l).all.length t < n → (∀ q, t.testBit q = true ↔ ∃ id, (idsS l)[q]? = some id ∧ id ∈ row) →
    (rowsS l (idsS l) n m row = true ↔ Can (foldO l).all t m)
  | 0, _, _, _, _, h, _ => absurd h (by omega)
  | n + 1, t, m, row, ht, hc, hrow => by
    have V := invO_all R
    have ST := steps_all R
    have hnd : (idsS l).Nodup := by rw [← V.ids]; exact V.nd
    have hlen : (idsS l).length = (foldO l).all.length := by rw [← V.ids]; exact V.len
    have hbeg : ∀ id, id ∈ idsS l → hasE l 1 id = true := fun id h => mem_idsE.1 h
    have one : ∀ (i : Nat) (hi : i < (foldO l).all.length) (hi2 : i < (idsS l).length), (foldO l).all[i].op = opOf l (idsS l)[i] ∧ (foldO l).all[i].ended = hasE l 3 (idsS l)[i] ∧ ((foldO l).all[i].ended = true → (foldO l).all[i].a = answerS l (idsS l)[i]) ∧
        ∀ q, (foldO l).all[i].ahead.testBit q = true ↔ ∃ id', (idsS l)[q]? = some id' ∧ aheadS l id' (idsS l)[i] = true := fun i hi hi2 => by
      have := V.one i _ (idsS l)[i] (List.getElem?_eq_getElem hi) (by rw [V.ids, List.getElem?_eq_getElem hi2])
      rw [V.ids] at this
      exact this
    have bit : ∀ (i : Nat) (hi2 : i < (idsS l).length), t.testBit i = false ↔ inS row (idsS l)[i] = false := fun i hi2 => by
      rw [← Bool.not_eq_true, ← Bool.not_eq_true]
      refine not_congr ?_
      rw [hrow i, inS_iff, List.getElem?_eq_getElem hi2]
      constructor
      · rintro ⟨id, g1, g2⟩
        obtain rfl := Option.some.inj g1
        exact g2
      · intro g; exact ⟨_, rfl, g⟩
    have next : ∀ (i : Nat) (hi : i < (foldO l).all.length) (hi2 : i < (idsS l).length), t.testBit i = false → ∀ m', (rowsS l (idsS l) n m' (row ++ [(idsS l)[i]]) = true ↔ Can (foldO l).all (t ||| 2 ^ i) m') := fun i hi hi2 hti m' => by
      refine rows_iff R h7 n (t ||| 2 ^ i) m' _ (or_lt t ht i (by omega)) (by have := cnt_or _ (by omega) t ht i hi hti; omega) fun q => ?_
      rw [bit_or_at, Bool.or_eq_true, hrow q]
      constructor
      · rintro (⟨id, g1, g2⟩ | g)
        · exact ⟨id, g1, List.mem_append_left _ g2⟩
        · have g : i = q := of_decide_eq_true g
          subst g
          exact ⟨_, List.getElem?_eq_getElem hi2, by simp⟩
      · rintro ⟨id, g1, g2⟩
        rcases List.mem_append.1 g2 with g2 | g2
        · exact .inl ⟨id, g1, g2⟩
        · obtain ⟨g3, g4⟩ := List.getElem?_eq_some_iff.1 g1
          have hq : i = q := (List.getElem_inj (h₀ := hi2) (h₁ := g3) hnd).1 (by rw [g4, List.mem_singleton.1 g2])
          exact .inr (decide_eq_true hq)
    rw [rowsS, Bool.or_eq_true, List.any_eq_true]
    constructor
    · rintro (h | ⟨id, hid, h⟩)
      · refine .done _ _ fun i hi he => ?_
        have hi2 : i < (idsS l).length := by omega
        rw [wholeR, List.all_eq_true] at h
        have hin := List.getElem_mem hi2
        have h1 := h _ hin
        rw [stOf_lt ST (hbeg _ hin), ← (one i hi hi2).2.1, he, Bool.not_true, Bool.false_or, inS_iff] at h1
        exact (hrow i).2 ⟨_, List.getElem?_eq_getElem hi2, h1⟩
      · obtain ⟨i, hi2, rfl⟩ := List.getElem_of_mem hid
        have hi : i < (foldO l).all.length := by omega
        obtain ⟨a1, a2, a3, a4⟩ := one i hi hi2
        simp only [Bool.and_eq_true, Bool.not_eq_true'] at h
        obtain ⟨h1, h2, h3, h4⟩ := h
        have hti := (bit i hi2).2 h1
        exact .step _ _ i hi hti ((free_iff a4 hrow).2 h2) _ ((next_iff ST (hbeg _ hid) a1 a2 a3 m _).2 ⟨h3, rfl⟩) ((next i hi hi2 hti _).1 h4)
    · intro h
      cases h with
      | done _ _ h =>
        refine .inl ?_
        rw [wholeR, List.all_eq_true]
        intro id hid
        obtain ⟨i, hi2, rfl⟩ := List.getElem_of_mem hid
        have hi : i < (foldO l).all.length := by omega
        obtain ⟨a1, a2, a3, a4⟩ := one i hi hi2
        rw [stOf_lt ST (hbeg _ hid), ← a2, Bool.or_eq_true, inS_iff]
        cases hx : (foldO l).all[i].ended with
        | false => exact .inl rfl
        | true =>
          obtain ⟨id', g1, g2⟩ := (hrow i).1 (h i hi hx)
          rw [List.getElem?_eq_getElem hi2] at g1
          obtain rfl := Option.some.inj g1
          exact .inr g2
      | step _ _ i hi hti hb m' hm k =>
        have hi2 : i < (idsS l).length := by omega
        obtain ⟨a1, a2, a3, a4⟩ := one i hi hi2
        have hid := List.getElem_mem hi2
        obtain ⟨g1, rfl⟩ := (next_iff ST (hbeg _ hid) a1 a2 a3 m m').1 hm
        refine .inr ⟨_, hid, ?_⟩
        rw [(bit i hi2).1 hti, (free_iff a4 hrow).1 hb, g1, (next i hi hi2 hti _).2 k]; rfl
/-- What the document's Some answers. -/
def refSomeS (l : List Pr) (evs : List Ev) : Bool :=
  if (((checkS (fun _ => noKn) evs 0).2 != 0) || decide (((idsS evs).length : Int) > 7)) = true then false else rowsS evs (idsS evs) ((idsS evs).length + 1) (newP l) []
theorem refSome_eq (l : List Pr) (evs : List Ev) : refSomeS l evs = someS l evs := by
  unfold refSomeS someS
  by_cases c : ((checkS (fun _ => noKn) evs 0).2 != 0) = true
  · rw [c, Bool.true_or, if_pos rfl, if_pos rfl]
  have h0 : (checkS (fun _ => noKn) evs 0).2 = 0 := by simpa using c
  have R := right_of_check h0
  have V := invO_all R
  have hlen : (idsS evs).length = (foldO evs).all.length := by rw [← V.ids]; exact V.len
  rw [h0, if_neg (show ¬ ((0 : Int) != 0) = true by decide), hlen]
  by_cases h7 : 7 < (foldO evs).all.length
  · rw [if_pos h7, if_pos (by simp; omega)]
  · rw [if_neg h7, if_neg (by simp; omega), Bool.eq_iff_iff, some_iff _ (by omega)]
    refine rows_iff R (by omega) _ 0 _ [] (by decide) ?_ (fun q => by simp)
    have := List.countP_le_length (p := fun i => !(0 : Nat).testBit i) (l := List.range (foldO evs).all.length)
    rw [List.length_range] at this
    unfold cnt; omega
end Go.Proofs.Ytandbjhedkgldaa.LF
end

section
/- The document's rows: the walk. -/
namespace Go.Proofs.Ytandbjhedkgldaa.LF
open Go.RowKit H
set_option linter.unusedVariables false
attribute [local irreducible] andThen inBlock LWp LOps LCalls

theorem all_take_succ {α : Type} (p : α → Bool) {l : List α} {j : Nat} (h : j < l.length) : (l.take (j + 1)).all p = ((l.take j).all p && p l[j]) := by
  rw [List.take_succ_eq_append_getElem h, List.all_append]; simp
/-- How many are not in the row. -/
def cntR (ids row : List Int) : Nat := ids.countP fun id => !inS row id
theorem cntR_lt {ids row : List Int} {id : Int} (h : id ∈ ids) (hn : inS row id = false) : cntR ids (row ++ [id]) < cntR ids row := by
  have le : ∀ l : List Int, l.countP (fun x => !inS (row ++ [id]) x) ≤ l.countP (fun x => !inS row x) := fun l =>
    List.countP_mono_left fun x _ hx => by
      have : inS (row ++ [id]) x = (inS row x || (id == x)) := by simp [inS]
      rw [this] at hx
      cases hq : inS row x with
      | false => rfl
      | true => rw [hq] at hx; cases hx
  obtain ⟨a, b, rfl⟩ := List.append_of_mem h
  unfold cntR
  rw [List.countP_append, List.countP_append, List.countP_cons, List.countP_cons]
  have h1 := le a
  have h2 := le b
  have e1 : inS (row ++ [id]) id = true := by rw [inS_iff]; simp
  rw [e1, hn]
  simp only [Bool.not_true, Bool.not_false, Bool.false_eq_true, if_false, if_true]
  omega

theorem LDo.copyInts {G : Ctx} (hD : TabOK G.P D) {o : Oper} {T : Nat → TV} {S2 : LS} {ba : Nat} {row : List Int} {s x : Operand} (hba : S2.fresh ba) (ho : o.op = .call { callee := .builtin .append, args := #[s, x], argTypes := #[60, 60] })
    (hs : lev T s = .one (rsl ba 0 0 0)) (hx : lev T x = .one (.sl .sh (iL row))) (hl : row.length ≤ 1000) :
    LDo G o T (S2.newBox ba []) (fun r S' => ∃ X, r = .one X ∧ PtAt (fun x : Int => [iv x]) 1 S' X row ∧ S2.le S' ∧ ∀ c, blockOf X = some c → S2.box c = none) := by
  have hrow1 : ∀ c ∈ iL row, c.length = 1 := fun c hc => by obtain ⟨x, _, rfl⟩ := List.mem_map.1 hc; rfl
  have hle := LS.le.newBox (.refl S2) hba ([] : List LV)
  have hsrc := SrcL.sl (S := S2.newBox ba []) (z := 1) .sh (iL row) hrow1
  rw [List.length_map] at hsrc
  by_cases h0 : row = []
  · subst h0
    refine (LDo.appendRoomR (m := 0) (l := []) hD ho hs hx rfl rfl rfl rfl (box_new _ _ _) (by decide) hsrc (by decide)).mono' fun r S' ⟨e1, e2⟩ => ?_
    subst e2
    refine ⟨_, e1, .row ba 0 0 [] [] [] (box_set _ _ _) rfl (Nat.le_refl _) (by simp), hle.setBox hba.box _, fun c hc => ?_⟩
    obtain rfl : ba = c := by simpa [blockOf] using hc
    exact hba.box
  · have hpos : 0 < row.length := List.length_pos_iff.2 h0
    refine (LDo.appendGrowR (n := 0) (c := 0) (m := row.length) (l := []) hD ho hs hx rfl rfl rfl rfl rfl rfl (.inl ⟨_, rfl⟩) (.all (box_new _ _ _) rfl) hsrc (by omega) (by omega)).mono' fun r S' ⟨b', c', hb', hc', e1, e2⟩ => ?_
    subst e2
    rw [Nat.zero_add] at hc' e1
    refine ⟨_, e1, .row b' 0 c' row [] (zrow ti3 (c' - row.length)) ?_ rfl hc' ?_, hle.newBox hb' _, fun c hc => ?_⟩
    · rw [box_new, Nat.zero_add]; rfl
    · rw [List.length_append, cellsR_length (f := fun x : Int => [iv x]) (z := 1) (fun _ => rfl), zrow_length]
      show c' * 1 ≤ row.length * 1 + (c' - row.length) * 1
      omega
    · obtain rfl : b' = c := by simpa [blockOf] using hc
      exact hle.none hb'

set_option maxHeartbeats 16000000 in
set_option maxRecDepth 10000 in
theorem rows_F {G : Ctx} (hP : G.P = Try.prog) (evs : List Ev) (he : evs.length ≤ 1000) (ho : ∀ e ∈ evs, FineO e.op) (ids : List Int) (hi : ids.length ≤ 7) : ∀ (n : Nat) (w m : List Pr) (row : List Int), Alike w m → Small5 m → m.length + 8 * n ≤ 2000 → row.length + n ≤ 100 → cntR ids row < n →
    LFun G 43 [.agg (mapW w), .one (.sl .sh (evs.map evL)), .one (.sl .sh (iL ids)), .one (.sl .sh (iL row))] (.one (bv (rowsS evs ids n m row)))
  | 0, _, _, _, _, _, _, _, h => absurd h (by omega)
  | n + 1, w, m, row, ha, h5, hml, hrl, hc => LFun.of fun S => by
    have ih := fun (G' : Ctx) (e : G'.P = G.P) => rows_F (G := G') (e.trans hP) evs he ho ids hi n
    have hD : TabOK G.P D := by rw [hP]; exact hD0
    have ea : EqTy G.P D 38 := by rw [hP]; exact H.eqAns
    have him : (iL ids).length = ids.length := List.length_map ..
    refine LCalls.enter (fn := Try.f43) (by rw [hP]; exact Try.func43) rfl rfl ?_
    repeat (first | refine LOps.nil ?_ | refine andThen_normal ?_ | refine andThen_exit ?_ | refine andThen_ret ?_ | refine inBlock_normal ?_ | refine inBlock_ret ?_ | refine inBlock_here ?_ | refine inBlock_out rfl ?_ | refine LWp.seq ?_ | refine LWp.region ?_ | refine LWp.block ?_ | refine LWp.exit ?_ | refine LWp.ret ?_ | refine LWp.skip ?_ | refine LOps.valA ?_ | refine LOps.outA ?_ | refine LOps.whenA ?_ | refine LOps.pickA ?_ | refine LOps.storeA ?_)
    refine LOps.do (LDo.box rfl rfl) rfl rfl rfl ?_
    rintro _ _ ⟨b4, hb4, rfl, rfl⟩
    have l4 := LS.le.newBox (.refl S) hb4 (mapW w)
    have s4 := hb4.box
    repeat (first | refine LOps.nil ?_ | refine andThen_normal ?_ | refine andThen_exit ?_ | refine andThen_ret ?_ | refine inBlock_normal ?_ | refine inBlock_ret ?_ | refine inBlock_here ?_ | refine inBlock_out rfl ?_ | refine LWp.seq ?_ | refine LWp.region ?_ | refine LWp.block ?_ | refine LWp.exit ?_ | refine LWp.ret ?_ | refine LWp.skip ?_ | refine LOps.valA ?_ | refine LOps.outA ?_ | refine LOps.whenA ?_ | refine LOps.pickA ?_ | refine LOps.storeA ?_)
    refine LWp.loop (fun k T S' => ∃ (T' : Nat → TV) (j : Nat), j ≤ ids.length ∧ k = ids.length - j ∧ S.le S' ∧ S'.box b4 = some (mapW w) ∧
      T = over T' [(1, .one (.sl .sh (evs.map evL))), (2, .one (.sl .sh (iL ids))), (3, .one (.sl .sh (iL row))), (4, ptr b4), (9, .one (bv ((ids.take j).all fun id => decide (stOf evs id < 3) || inS row id))), (10, .one (iv (j : Nat)))]) ids.length ?_ ?_
    · exact ⟨_, 0, by omega, by omega, l4, box_new _ _ _, holds.over ⟨rfl, rfl, rfl, rfl, rfl, rfl, trivial⟩⟩
    clear l4 hb4
    rintro k T S1 ⟨T', j, hj, rfl, hle, k4, rfl⟩
    repeat (first | refine LOps.nil ?_ | refine andThen_normal ?_ | refine andThen_exit ?_ | refine andThen_ret ?_ | refine inBlock_normal ?_ | refine inBlock_ret ?_ | refine inBlock_here ?_ | refine inBlock_out rfl ?_ | refine LWp.seq ?_ | refine LWp.region ?_ | refine LWp.block ?_ | refine LWp.exit ?_ | refine LWp.ret ?_ | refine LWp.skip ?_ | refine LOps.valA ?_ | refine LOps.outA ?_ | refine LOps.whenA ?_ | refine LOps.pickA ?_ | refine LOps.storeA ?_)
    refine LWp.cond rfl (fun h => ?_) (fun h => ?_)
    · have hlt : j < ids.length := by rw [him] at h; simpa using h
      have e1 := all_take_succ (fun id => decide (stOf evs id < 3) || inS row id) hlt
      have cs := refState_F hP evs (by omega) ids[j]
      have ci := in_F hP row ids[j] (by omega)
      repeat (first | refine LOps.nil ?_ | refine andThen_normal ?_ | refine andThen_exit ?_ | refine andThen_ret ?_ | refine inBlock_normal ?_ | refine inBlock_ret ?_ | refine inBlock_here ?_ | refine inBlock_out rfl ?_ | refine LWp.seq ?_ | refine LWp.region ?_ | refine LWp.block ?_ | refine LWp.exit ?_ | refine LWp.ret ?_ | refine LWp.skip ?_ | refine LOps.val (LVal.call rfl rfl (by rw [hP]; exact Try.func32) rfl (by decide) (cs)) rfl rfl rfl ?_ | refine LOps.whenC (LVal.call rfl rfl (by rw [hP]; exact Try.func32) rfl (by decide) (cs)) ?_ | refine LOps.valA ?_ | refine LOps.outA ?_ | refine LOps.whenA ?_ | refine LOps.pickA ?_ | refine LOps.storeA ?_)
      refine LOps.do (LDo.alloc hD rfl rfl rfl) rfl rfl rfl ?_
      rintro _ _ ⟨b11, hb11, rfl, rfl⟩
      have s11 := hle.none hb11
      have n411 := fresh_ne hb11 k4
      refine LOps.do (LDo.alloc hD rfl rfl rfl) rfl rfl rfl ?_
      rintro _ _ ⟨b12, hb12, rfl, rfl⟩
      have s12 := (hle.newBox hb11 _).none hb12
      have n412 := fresh_ne hb12 ((box_new_ne _ (lzero ti34) n411).trans k4)
      have n1112 : b11 ≠ b12 := fresh_ne hb12 (box_new _ _ _)
      have n1211 := n1112.symm
      have l9 := (((hle.newBox hb11 (lzero ti34)).newBox hb12 (lzero ti38)).setBox s11 (opL (findE evs 1 ids[j]).op)).setBox s12 (ansL (findE evs 2 ids[j]).ans)
      have q4 := (box_set_ne (((S1.newBox b11 (lzero ti34)).newBox b12 (lzero ti38)).setBox b11 (opL (findE evs 1 ids[j]).op)) (ansL (findE evs 2 ids[j]).ans) n412).trans ((box_set_ne _ (opL (findE evs 1 ids[j]).op) n411).trans ((box_new_ne _ (lzero ti38) n412).trans ((box_new_ne _ (lzero ti34) n411).trans k4)))
      repeat (first | refine LOps.nil ?_ | refine andThen_normal ?_ | refine andThen_exit ?_ | refine andThen_ret ?_ | refine inBlock_normal ?_ | refine inBlock_ret ?_ | refine inBlock_here ?_ | refine inBlock_out rfl ?_ | refine LWp.seq ?_ | refine LWp.region ?_ | refine LWp.block ?_ | refine LWp.exit ?_ | refine LWp.ret ?_ | refine LWp.skip ?_ | refine LOps.val (LVal.call rfl rfl (by rw [hP]; exact Try.func63) rfl (by decide) (ci)) rfl rfl rfl ?_ | refine LOps.whenC (LVal.call rfl rfl (by rw [hP]; exact Try.func63) rfl (by decide) (ci)) ?_ | refine LOps.valA ?_ | refine LOps.outA ?_ | refine LOps.whenA ?_ | refine LOps.pickA ?_ | refine LOps.storeA ?_)
      exact ⟨ids.length - (j + 1), by omega, _, j + 1, by omega, rfl, l9, q4, holds.over ⟨rfl, rfl, rfl, rfl, by rw [e1]; rfl, rfl, trivial⟩⟩
    have hge : j = ids.length := by rw [him] at h; simp at h; omega
    subst hge
    rw [List.take_length]
    repeat (first | refine LOps.nil ?_ | refine andThen_normal ?_ | refine andThen_exit ?_ | refine andThen_ret ?_ | refine inBlock_normal ?_ | refine inBlock_ret ?_ | refine inBlock_here ?_ | refine inBlock_out rfl ?_ | refine LWp.seq ?_ | refine LWp.region ?_ | refine LWp.block ?_ | refine LWp.exit ?_ | refine LWp.ret ?_ | refine LWp.skip ?_ | refine LOps.valA ?_ | refine LOps.outA ?_ | refine LOps.whenA ?_ | refine LOps.pickA ?_ | refine LOps.storeA ?_)
    refine LWp.cond rfl (fun h => ?_) (fun h => ?_)
    · have hw : wholeR evs ids row = true := h
      have e : rowsS evs ids (n + 1) m row = true := by rw [rowsS, hw]; rfl
      rw [e]
      repeat (first | refine LOps.nil ?_ | refine andThen_normal ?_ | refine andThen_exit ?_ | refine andThen_ret ?_ | refine inBlock_normal ?_ | refine inBlock_ret ?_ | refine inBlock_here ?_ | refine inBlock_out rfl ?_ | refine LWp.seq ?_ | refine LWp.region ?_ | refine LWp.block ?_ | refine LWp.exit ?_ | refine LWp.ret ?_ | refine LWp.skip ?_ | refine LOps.valA ?_ | refine LOps.outA ?_ | refine LOps.whenA ?_ | refine LOps.pickA ?_ | refine LOps.storeA ?_)
      exact ⟨_, LRes.one rfl, rfl, hle⟩
    have hw : wholeR evs ids row = false := h
    have e : rowsS evs ids (n + 1) m row = ids.any fun id => !inS row id && (freeR evs ids row id && (!wrongR evs m id && rowsS evs ids n (nextR evs m id) (row ++ [id]))) := by rw [rowsS, hw]; rfl
    rw [e]
    clear e
    obtain ⟨goR, hg⟩ : ∃ g : Int → Bool, ∀ id, g id = (!inS row id && (freeR evs ids row id && (!wrongR evs m id && rowsS evs ids n (nextR evs m id) (row ++ [id])))) := ⟨_, fun _ => rfl⟩
    rw [show (ids.any fun id => !inS row id && (freeR evs ids row id && (!wrongR evs m id && rowsS evs ids n (nextR evs m id) (row ++ [id])))) = ids.any goR from congrArg ids.any (funext fun id => (hg id).symm)]
    repeat (first | refine LOps.nil ?_ | refine andThen_normal ?_ | refine andThen_exit ?_ | refine andThen_ret ?_ | refine inBlock_normal ?_ | refine inBlock_ret ?_ | refine inBlock_here ?_ | refine inBlock_out rfl ?_ | refine LWp.seq ?_ | refine LWp.region ?_ | refine LWp.block ?_ | refine LWp.exit ?_ | refine LWp.ret ?_ | refine LWp.skip ?_ | refine LOps.valA ?_ | refine LOps.outA ?_ | refine LOps.whenA ?_ | refine LOps.pickA ?_ | refine LOps.storeA ?_)
    refine LWp.loop (fun k T S' => ∃ (T' : Nat → TV) (j : Nat), j ≤ ids.length ∧ k = ids.length - j ∧ S.le S' ∧ S'.box b4 = some (mapW w) ∧
      (∀ (i : Nat) (hi : i < j) (h1 : i < ids.length), goR ids[i] = false) ∧
      T = over T' [(1, .one (.sl .sh (evs.map evL))), (2, .one (.sl .sh (iL ids))), (3, .one (.sl .sh (iL row))), (4, ptr b4), (14, .one (iv (j : Nat)))]) ids.length ?_ ?_
    · exact ⟨_, 0, by omega, by omega, hle, k4, fun i hi => by omega, holds.over ⟨rfl, rfl, rfl, rfl, rfl, trivial⟩⟩
    clear hle k4 hw h
    rintro k T S1 ⟨T', j, hj, rfl, hle, k4, hno, rfl⟩
    repeat (first | refine LOps.nil ?_ | refine andThen_normal ?_ | refine andThen_exit ?_ | refine andThen_ret ?_ | refine inBlock_normal ?_ | refine inBlock_ret ?_ | refine inBlock_here ?_ | refine inBlock_out rfl ?_ | refine LWp.seq ?_ | refine LWp.region ?_ | refine LWp.block ?_ | refine LWp.exit ?_ | refine LWp.ret ?_ | refine LWp.skip ?_ | refine LOps.valA ?_ | refine LOps.outA ?_ | refine LOps.whenA ?_ | refine LOps.pickA ?_ | refine LOps.storeA ?_)
    refine LWp.cond rfl (fun h => ?_) (fun h => ?_)
    · have hlt : j < ids.length := by rw [him] at h; simpa using h
      have cs := refState_F hP evs (by omega) ids[j]
      have ci := in_F hP row ids[j] (by omega)
      have hmem := List.getElem_mem hlt
      have hgo := hg ids[j]
      have hlater : goR ids[j] = false → ∀ (i : Nat) (hi : i < j + 1) (h1 : i < ids.length), goR ids[i] = false := fun h0 i hi h1 => by
        by_cases e : i = j
        · subst e; exact h0
        · exact hno i (by omega) h1
      repeat (first | refine LOps.nil ?_ | refine andThen_normal ?_ | refine andThen_exit ?_ | refine andThen_ret ?_ | refine inBlock_normal ?_ | refine inBlock_ret ?_ | refine inBlock_here ?_ | refine inBlock_out rfl ?_ | refine LWp.seq ?_ | refine LWp.region ?_ | refine LWp.block ?_ | refine LWp.exit ?_ | refine LWp.ret ?_ | refine LWp.skip ?_ | refine LOps.val (LVal.call rfl rfl (by rw [hP]; exact Try.func63) rfl (by decide) (ci)) rfl rfl rfl ?_ | refine LOps.whenC (LVal.call rfl rfl (by rw [hP]; exact Try.func63) rfl (by decide) (ci)) ?_ | refine LOps.valA ?_ | refine LOps.outA ?_ | refine LOps.whenA ?_ | refine LOps.pickA ?_ | refine LOps.storeA ?_)
      generalize hid : ids[j] = id at *
      refine LWp.cond rfl (fun h => ?_) (fun h => ?_)
      · have h0 : goR id = false := by rw [hgo, show inS row id = true from h]; rfl
        repeat (first | refine LOps.nil ?_ | refine andThen_normal ?_ | refine andThen_exit ?_ | refine andThen_ret ?_ | refine inBlock_normal ?_ | refine inBlock_ret ?_ | refine inBlock_here ?_ | refine inBlock_out rfl ?_ | refine LWp.seq ?_ | refine LWp.region ?_ | refine LWp.block ?_ | refine LWp.exit ?_ | refine LWp.ret ?_ | refine LWp.skip ?_ | refine LOps.valA ?_ | refine LOps.outA ?_ | refine LOps.whenA ?_ | refine LOps.pickA ?_ | refine LOps.storeA ?_)
        exact ⟨ids.length - (j + 1), by omega, _, j + 1, by omega, rfl, hle, k4, hlater h0, holds.over ⟨rfl, rfl, rfl, rfl, rfl, trivial⟩⟩
      have hni : inS row id = false := h
      repeat (first | refine LOps.nil ?_ | refine andThen_normal ?_ | refine andThen_exit ?_ | refine andThen_ret ?_ | refine inBlock_normal ?_ | refine inBlock_ret ?_ | refine inBlock_here ?_ | refine inBlock_out rfl ?_ | refine LWp.seq ?_ | refine LWp.region ?_ | refine LWp.block ?_ | refine LWp.exit ?_ | refine LWp.ret ?_ | refine LWp.skip ?_ | refine LOps.valA ?_ | refine LOps.outA ?_ | refine LOps.whenA ?_ | refine LOps.pickA ?_ | refine LOps.storeA ?_)
      refine LWp.loop (fun k T S' => ∃ (T' : Nat → TV) (q : Nat), q ≤ ids.length ∧ k = ids.length - q ∧ S.le S' ∧ S'.box b4 = some (mapW w) ∧
        T = over T' [(1, .one (.sl .sh (evs.map evL))), (2, .one (.sl .sh (iL ids))), (3, .one (.sl .sh (iL row))), (4, ptr b4), (14, .one (iv (j : Nat))), (15, .one (iv id)), (16, .one (bv ((ids.take q).all fun k => inS row k || !aheadS evs k id))), (17, .one (iv (q : Nat)))]) ids.length ?_ ?_
      · exact ⟨_, 0, by omega, by omega, hle, k4, holds.over ⟨rfl, rfl, rfl, rfl, rfl, rfl, rfl, rfl, trivial⟩⟩
      clear hle k4 h
      rintro k T S1 ⟨T', q, hq, rfl, hle, k4, rfl⟩
      repeat (first | refine LOps.nil ?_ | refine andThen_normal ?_ | refine andThen_exit ?_ | refine andThen_ret ?_ | refine inBlock_normal ?_ | refine inBlock_ret ?_ | refine inBlock_here ?_ | refine inBlock_out rfl ?_ | refine LWp.seq ?_ | refine LWp.region ?_ | refine LWp.block ?_ | refine LWp.exit ?_ | refine LWp.ret ?_ | refine LWp.skip ?_ | refine LOps.valA ?_ | refine LOps.outA ?_ | refine LOps.whenA ?_ | refine LOps.pickA ?_ | refine LOps.storeA ?_)
      refine LWp.cond rfl (fun h => ?_) (fun h => ?_)
      · have hltq : q < ids.length := by rw [him] at h; simpa using h
        have e1 := all_take_succ (fun k => inS row k || !aheadS evs k id) hltq
        repeat (first | refine LOps.nil ?_ | refine andThen_normal ?_ | refine andThen_exit ?_ | refine andThen_ret ?_ | refine inBlock_normal ?_ | refine inBlock_ret ?_ | refine inBlock_here ?_ | refine inBlock_out rfl ?_ | refine LWp.seq ?_ | refine LWp.region ?_ | refine LWp.block ?_ | refine LWp.exit ?_ | refine LWp.ret ?_ | refine LWp.skip ?_ | refine LOps.val (LVal.call rfl rfl (by rw [hP]; exact Try.func63) rfl (by decide) (in_F hP row ids[q] (by omega))) rfl rfl rfl ?_ | refine LOps.val (LVal.call rfl rfl (by rw [hP]; exact Try.func64) rfl (by decide) (refAhead_F hP evs (by omega) ids[q] id)) rfl rfl rfl ?_ | refine LOps.whenC (LVal.call rfl rfl (by rw [hP]; exact Try.func63) rfl (by decide) (in_F hP row ids[q] (by omega))) ?_ | refine LOps.whenC (LVal.call rfl rfl (by rw [hP]; exact Try.func64) rfl (by decide) (refAhead_F hP evs (by omega) ids[q] id)) ?_ | refine LOps.valA ?_ | refine LOps.outA ?_ | refine LOps.whenA ?_ | refine LOps.pickA ?_ | refine LOps.storeA ?_)
        exact ⟨ids.length - (q + 1), by omega, _, q + 1, by omega, rfl, hle, k4, holds.over ⟨rfl, rfl, rfl, rfl, rfl, rfl, by rw [e1]; rfl, rfl, trivial⟩⟩
      have hqe : q = ids.length := by rw [him] at h; simp at h; omega
      subst hqe
      rw [List.take_length]
      repeat (first | refine LOps.nil ?_ | refine andThen_normal ?_ | refine andThen_exit ?_ | refine andThen_ret ?_ | refine inBlock_normal ?_ | refine inBlock_ret ?_ | refine inBlock_here ?_ | refine inBlock_out rfl ?_ | refine LWp.seq ?_ | refine LWp.region ?_ | refine LWp.block ?_ | refine LWp.exit ?_ | refine LWp.ret ?_ | refine LWp.skip ?_ | refine LOps.valA ?_ | refine LOps.outA ?_ | refine LOps.whenA ?_ | refine LOps.pickA ?_ | refine LOps.storeA ?_)
      refine LWp.cond rfl (fun h => ?_) (fun h => ?_)
      · have hf : freeR evs ids row id = false := by
          have h1 : (!freeR evs ids row id) = true := h
          simpa using h1
        have h0 : goR id = false := by rw [hgo, hf]; simp
        repeat (first | refine LOps.nil ?_ | refine andThen_normal ?_ | refine andThen_exit ?_ | refine andThen_ret ?_ | refine inBlock_normal ?_ | refine inBlock_ret ?_ | refine inBlock_here ?_ | refine inBlock_out rfl ?_ | refine LWp.seq ?_ | refine LWp.region ?_ | refine LWp.block ?_ | refine LWp.exit ?_ | refine LWp.ret ?_ | refine LWp.skip ?_ | refine LOps.valA ?_ | refine LOps.outA ?_ | refine LOps.whenA ?_ | refine LOps.pickA ?_ | refine LOps.storeA ?_)
        exact ⟨ids.length - (j + 1), by omega, _, j + 1, by omega, rfl, hle, k4, hlater h0, holds.over ⟨rfl, rfl, rfl, rfl, rfl, trivial⟩⟩
      have hf : freeR evs ids row id = true := by
        have h1 : (!freeR evs ids row id) = false := h
        simpa using h1
      repeat (first | refine LOps.nil ?_ | refine andThen_normal ?_ | refine andThen_exit ?_ | refine andThen_ret ?_ | refine inBlock_normal ?_ | refine inBlock_ret ?_ | refine inBlock_here ?_ | refine inBlock_out rfl ?_ | refine LWp.seq ?_ | refine LWp.region ?_ | refine LWp.block ?_ | refine LWp.exit ?_ | refine LWp.ret ?_ | refine LWp.skip ?_ | refine LOps.val (LVal.call rfl rfl (by rw [hP]; exact Try.func32) rfl (by decide) (cs)) rfl rfl rfl ?_ | refine LOps.whenC (LVal.call rfl rfl (by rw [hP]; exact Try.func32) rfl (by decide) (cs)) ?_ | refine LOps.valA ?_ | refine LOps.outA ?_ | refine LOps.whenA ?_ | refine LOps.pickA ?_ | refine LOps.storeA ?_)
      refine LOps.do (LDo.alloc hD rfl rfl rfl) rfl rfl rfl ?_
      rintro _ _ ⟨b18, hb18, rfl, rfl⟩
      have s18 := hle.none hb18
      have n418 := fresh_ne hb18 k4
      refine LOps.do (LDo.alloc hD rfl rfl rfl) rfl rfl rfl ?_
      rintro _ _ ⟨b19, hb19, rfl, rfl⟩
      have s19 := (hle.newBox hb18 _).none hb19
      have n419 := fresh_ne hb19 ((box_new_ne _ (lzero ti34) n418).trans k4)
      have n1819 : b18 ≠ b19 := fresh_ne hb19 (box_new _ _ _)
      have n1918 := n1819.symm
      have l9 := (((hle.newBox hb18 (lzero ti34)).newBox hb19 (lzero ti38)).setBox s18 (opL (opOf evs id))).setBox s19 (ansL (findE evs 2 id).ans)
      have q4 := (box_set_ne (((S1.newBox b18 (lzero ti34)).newBox b19 (lzero ti38)).setBox b18 (opL (opOf evs id))) (ansL (findE evs 2 id).ans) n419).trans ((box_set_ne _ (opL (opOf evs id)) n418).trans ((box_new_ne _ (lzero ti38) n419).trans ((box_new_ne _ (lzero ti34) n418).trans k4)))
      have q18 := (box_set_ne (((S1.newBox b18 (lzero ti34)).newBox b19 (lzero ti38)).setBox b18 (opL (opOf evs id))) (ansL (findE evs 2 id).ans) n1819).trans (box_set _ _ _)
      repeat (first | refine LOps.nil ?_ | refine andThen_normal ?_ | refine andThen_exit ?_ | refine andThen_ret ?_ | refine inBlock_normal ?_ | refine inBlock_ret ?_ | refine inBlock_here ?_ | refine inBlock_out rfl ?_ | refine LWp.seq ?_ | refine LWp.region ?_ | refine LWp.block ?_ | refine LWp.exit ?_ | refine LWp.ret ?_ | refine LWp.skip ?_ | refine LOps.valA ?_ | refine LOps.outA ?_ | refine LOps.whenA ?_ | refine LOps.pickA ?_ | refine LOps.storeA ?_)
      refine LOps.do (LDo.alloc hD rfl rfl rfl) rfl rfl rfl ?_
      rintro _ _ ⟨b21, hb21, rfl, rfl⟩
      have s21 := l9.none hb21
      have m4 := fresh_ne hb21 q4
      have m18 := fresh_ne hb21 q18
      have m19 := fresh_ne hb21 (box_set (((S1.newBox b18 (lzero ti34)).newBox b19 (lzero ti38)).setBox b18 (opL (opOf evs id))) b19 (ansL (findE evs 2 id).ans))
      refine LOps.gen (fun S2 => S.le S2 ∧ S2.box b4 = some (mapW w) ∧ S2.box b18 = some (opL (opOf evs id)) ∧ S2.box b19 = some (ansL (findE evs 2 id).ans) ∧ S2.box b21 = some (lzero ti55)) ⟨l9.newBox hb21 _, (box_new_ne _ _ m4).trans q4, (box_new_ne _ _ m18).trans q18, (box_new_ne _ _ m19).trans (box_set _ _ _), box_new _ _ _⟩ ?_
      clear hb18 hb19 hb21 l9 q4 q18 hle k4 n418 n419 n1819 n1918 s18 s19
      rintro S2 ⟨hle, k4, k18, k19, k21⟩
      refine LOps.storeA (b := b21) (off := 0) (cs := lzero ti55) (l := mapW w) ?_
      refine LOps.gen (fun S2 => S.le S2 ∧ S2.box b4 = some (mapW w) ∧ S2.box b18 = some (opL (opOf evs id)) ∧ S2.box b19 = some (ansL (findE evs 2 id).ans) ∧ S2.box b21 = some (mapW w)) ⟨hle.setBox s21 _, (box_set_ne _ _ m4).trans k4, (box_set_ne _ _ m18).trans k18, (box_set_ne _ _ m19).trans k19, box_set _ _ _⟩ ?_
      clear hle k4 k18 k19 k21
      rintro S2 ⟨hle, k4, k18, k19, k21⟩
      have hans := answer_find evs id
      repeat (first | refine LOps.nil ?_ | refine andThen_normal ?_ | refine andThen_exit ?_ | refine andThen_ret ?_ | refine inBlock_normal ?_ | refine inBlock_ret ?_ | refine inBlock_here ?_ | refine inBlock_out rfl ?_ | refine LWp.seq ?_ | refine LWp.region ?_ | refine LWp.block ?_ | refine LWp.exit ?_ | refine LWp.ret ?_ | refine LWp.skip ?_ | refine LOps.val (LVal.call rfl rfl (by rw [hP]; exact Try.func31) rfl (by decide) (refIdle_F hP _)) rfl rfl rfl ?_ | refine LOps.whenC (LVal.call rfl rfl (by rw [hP]; exact Try.func31) rfl (by decide) (refIdle_F hP _)) ?_ | refine LOps.valA ?_ | refine LOps.outA ?_ | refine LOps.whenA ?_ | refine LOps.pickA ?_ | refine LOps.storeA ?_)
      refine LWp.cond rfl (fun h => ?_) (fun h => ?_)
      · have hmv : movesR evs id = true := by rw [movesR, hans]; exact h
        repeat (first | refine LOps.nil ?_ | refine andThen_normal ?_ | refine andThen_exit ?_ | refine andThen_ret ?_ | refine inBlock_normal ?_ | refine inBlock_ret ?_ | refine inBlock_here ?_ | refine inBlock_out rfl ?_ | refine LWp.seq ?_ | refine LWp.region ?_ | refine LWp.block ?_ | refine LWp.exit ?_ | refine LWp.ret ?_ | refine LWp.skip ?_ | refine LOps.valA ?_ | refine LOps.outA ?_ | refine LOps.whenA ?_ | refine LOps.pickA ?_ | refine LOps.storeA ?_)
        refine LOps.do (LDo.alloc hD rfl rfl rfl) rfl rfl rfl ?_
        rintro _ _ ⟨b22, hb22, rfl, rfl⟩
        have s22 := hle.none hb22
        have p4 := fresh_ne hb22 k4
        have p18 := fresh_ne hb22 k18
        have p19 := fresh_ne hb22 k19
        have p21 := fresh_ne hb22 k21
        have p12 := p21.symm
        refine LOps.gen (fun S2 => S.le S2 ∧ S2.box b4 = some (mapW w) ∧ S2.box b18 = some (opL (opOf evs id)) ∧ S2.box b19 = some (ansL (findE evs 2 id).ans) ∧ S2.box b21 = some (mapW w) ∧ S2.box b22 = some (lzero ti38)) ⟨hle.newBox hb22 _, (box_new_ne _ _ p4).trans k4, (box_new_ne _ _ p18).trans k18, (box_new_ne _ _ p19).trans k19, (box_new_ne _ _ p21).trans k21, box_new _ _ _⟩ ?_
        clear hle k4 k18 k19 k21 hb22
        rintro S2 ⟨hle, k4, k18, k19, k21, k22⟩
        have cd := doW_F hP w m ha (by have := ha.len; omega) (h5.alike ha) (opOf evs id) (by have := (fineO_opOf ho id).key; omega) (by have := (fineO_opOf ho id).n; omega)
        repeat (first | refine LOps.nil ?_ | refine andThen_normal ?_ | refine andThen_exit ?_ | refine andThen_ret ?_ | refine inBlock_normal ?_ | refine inBlock_ret ?_ | refine inBlock_here ?_ | refine inBlock_out rfl ?_ | refine LWp.seq ?_ | refine LWp.region ?_ | refine LWp.block ?_ | refine LWp.exit ?_ | refine LWp.ret ?_ | refine LWp.skip ?_ | refine LOps.val (LVal.call rfl rfl (by rw [hP]; exact Try.func33) rfl (by decide) (cd)) rfl rfl rfl ?_ | refine LOps.whenC (LVal.call rfl rfl (by rw [hP]; exact Try.func33) rfl (by decide) (cd)) ?_ | refine LOps.valA ?_ | refine LOps.outA ?_ | refine LOps.whenA ?_ | refine LOps.pickA ?_ | refine LOps.storeA ?_)
        refine LWp.gen (fun S2 => S.le S2 ∧ S2.box b4 = some (mapW w) ∧ S2.box b19 = some (ansL (findE evs 2 id).ans) ∧ S2.box b21 = some (mapW (doW w (opOf evs id))) ∧ S2.box b22 = some (ansL (doA m (opOf evs id)))) ⟨(hle.setBox s21 _).setBox s22 _, (box_set_ne _ _ p4).trans ((box_set_ne _ _ m4).trans k4), (box_set_ne _ _ p19).trans ((box_set_ne _ _ m19).trans k19), (box_set_ne _ _ p21).trans (box_set _ _ _), box_set _ _ _⟩ ?_
        clear hle k4 k18 k19 k21 k22
        rintro S2 ⟨hle, k4, k19, k21, k22⟩
        repeat (first | refine LOps.nil ?_ | refine andThen_normal ?_ | refine andThen_exit ?_ | refine andThen_ret ?_ | refine inBlock_normal ?_ | refine inBlock_ret ?_ | refine inBlock_here ?_ | refine inBlock_out rfl ?_ | refine LWp.seq ?_ | refine LWp.region ?_ | refine LWp.block ?_ | refine LWp.exit ?_ | refine LWp.ret ?_ | refine LWp.skip ?_ | refine LOps.valA ?_ | refine LOps.outA ?_ | refine LOps.whenA ?_ | refine LOps.pickA ?_ | refine LOps.storeA ?_)
        refine LWp.cond rfl (fun h => ?_) (fun h => ?_)
        · have hwr : wrongR evs m id = true := by rw [wrongR, hmv, hans, ← ans_eq]; exact h
          have h0 : goR id = false := by rw [hgo, hwr]; simp
          repeat (first | refine LOps.nil ?_ | refine andThen_normal ?_ | refine andThen_exit ?_ | refine andThen_ret ?_ | refine inBlock_normal ?_ | refine inBlock_ret ?_ | refine inBlock_here ?_ | refine inBlock_out rfl ?_ | refine LWp.seq ?_ | refine LWp.region ?_ | refine LWp.block ?_ | refine LWp.exit ?_ | refine LWp.ret ?_ | refine LWp.skip ?_ | refine LOps.valA ?_ | refine LOps.outA ?_ | refine LOps.whenA ?_ | refine LOps.pickA ?_ | refine LOps.storeA ?_)
          exact ⟨ids.length - (j + 1), by omega, _, j + 1, by omega, rfl, hle, k4, hlater h0, holds.over ⟨rfl, rfl, rfl, rfl, rfl, trivial⟩⟩
        have hwr : wrongR evs m id = false := by rw [wrongR, hmv, hans, ← ans_eq]; exact h
        have hnx : nextR evs m id = doM m (opOf evs id) := if_pos hmv
        repeat (first | refine LOps.nil ?_ | refine andThen_normal ?_ | refine andThen_exit ?_ | refine andThen_ret ?_ | refine inBlock_normal ?_ | refine inBlock_ret ?_ | refine inBlock_here ?_ | refine inBlock_out rfl ?_ | refine LWp.seq ?_ | refine LWp.region ?_ | refine LWp.block ?_ | refine LWp.exit ?_ | refine LWp.ret ?_ | refine LWp.skip ?_)
        have hle0 := hle
        have hrow1 : ∀ c ∈ iL row, c.length = 1 := fun c hc => by obtain ⟨x, _, rfl⟩ := List.mem_map.1 hc; rfl
        have hm5 : Small5 (doM m (opOf evs id)) ∧ (doM m (opOf evs id)).length ≤ m.length + 8 := ⟨h5.doM ha.srt (fineO_opOf ho id), doM_length _ _⟩
        have cr := fun (G' : Ctx) (e : G'.P = G.P) => ih G' e (doW w (opOf evs id)) (doM m (opOf evs id)) (row ++ [id]) (ha.doO _) hm5.1 (by omega) (by rw [List.length_append, List.length_singleton]; omega) (by have := cntR_lt hmem hni; omega)
        refine LWp.drawF (fun q c => q < 9 ∧ S2.box c = none) [0, 1, 2, 4, 6, 7, 3, 5, 8, 9] (by rw [hP]; rfl) rfl ?_
        refine LRl.val (fun _ hS => LVal.load hD rfl rfl (hS.box _ _ k21 (fun h => by rw [k21] at h; cases h.2)) rfl rfl) rfl rfl rfl ?_
        refine LRl.valA ?_
        refine LRl.valA ?_
        refine LRl.valA ?_
        refine LRl.valA ?_
        refine LRl.val (r := .one (.sl .sh [[iv id]])) (fun _ _ => LVal.to (LVal.buildSlice hD rfl rfl rfl rfl rfl rfl rfl rfl rfl rfl) rfl) rfl rfl rfl ?_
        refine LRl.actA (LDo.buildSliceR (n := 0) (ps := []) (lp := []) (l := []) hD rfl rfl rfl rfl rfl rfl rfl rfl rfl rfl rfl).toAct rfl rfl rfl rfl (by rintro _ S5 ⟨b, hb, _, rfl⟩ q _; exact .inl (.of_le (LS.le.newBox (.refl _) hb _))) ?_
        rintro _ _ ⟨ba, hba, rfl, rfl⟩
        have l5 := LS.le.newBox (.refl S2) hba ([] : List LV)
        have keep : ∀ {S6 : LS}, S2.le S6 → ∀ q, S2.leX (fun c => q < 9 ∧ S2.box c = none) S6 := fun h q => .of_le h
        refine LRl.actA (LDo.copyInts hD hba rfl rfl rfl (by omega)).toAct rfl rfl rfl rfl (by
          rintro _ S6 ⟨X, _, _, l6, _⟩ q hq
          refine .inl ⟨fun c cs hc hn => ?_, fun c x hc => l6.obj c x hc⟩
          cases h2 : S2.box c with
          | none => exact absurd ⟨by omega, h2⟩ hn
          | some cs2 => rw [l5.box _ _ h2] at hc; rw [← hc]; exact l6.box _ _ h2) ?_
        rintro _ S6 ⟨X, rfl, p6, l6, nx6⟩
        refine LRl.actA (LDo.pushPt (f := fun x : Int => [iv x]) (z := 1) (v := id) hD (fun _ => rfl) rfl rfl rfl rfl rfl rfl rfl rfl rfl rfl rfl p6 (by omega)).toAct rfl rfl rfl rfl (by
          rintro _ S7 ⟨X', _, _, mv⟩ q hq
          refine .inl ⟨fun c cs hc hn => ?_, fun c x hc => mv.obj c x hc⟩
          cases h2 : S2.box c with
          | none => exact absurd ⟨by omega, h2⟩ hn
          | some cs2 => exact (mv.box c cs hc (fun e => by rw [nx6 c e] at h2; cases h2)).1) ?_
        rintro _ S7 ⟨X', rfl, p7, mv⟩
        have l7 : S2.le S7 := ⟨fun c cs hc => (mv.box c cs (l6.box c cs hc) (fun e => by rw [nx6 c e] at hc; cases hc)).1, fun c x hc => mv.row c x (l6.row c x hc), fun c x hc => mv.obj c x (l6.obj c x hc), Nat.le_trans l6.top mv.top⟩
        refine LRl.val (fun S' hS => LVal.callAny (fun G' e => cr G' e) rfl rfl (by rw [hP]; exact Try.func43) rfl (by decide) ⟨.agg ⟨.same _, trivial⟩, .one (.same _), .one (.same _), .one ((p7.keep fun c cs _ hc => hS.box c cs hc (fun h => absurd h.1 (by decide))).view (fun _ => rfl)), trivial⟩) rfl rfl rfl ?_
        repeat (first | refine LRl.nil ?_ | refine LRl.valA ?_ | refine LRl.outA ?_ | refine LRl.whenA ?_ | refine LRl.pickA ?_)
        refine andThen_normal ?_
        have hv : goR id = rowsS evs ids n (doM m (opOf evs id)) (row ++ [id]) := by rw [hgo, hni, hf, hwr, hnx]; rfl
        replace hle := hle0.trans l7
        replace k4 := l7.box _ _ k4
        repeat (first | refine LOps.nil ?_ | refine andThen_normal ?_ | refine andThen_exit ?_ | refine andThen_ret ?_ | refine inBlock_normal ?_ | refine inBlock_ret ?_ | refine inBlock_here ?_ | refine inBlock_out rfl ?_ | refine LWp.seq ?_ | refine LWp.region ?_ | refine LWp.block ?_ | refine LWp.exit ?_ | refine LWp.ret ?_ | refine LWp.skip ?_ | refine LOps.valA ?_ | refine LOps.outA ?_ | refine LOps.whenA ?_ | refine LOps.pickA ?_ | refine LOps.storeA ?_)
        refine LWp.cond rfl (fun h => ?_) (fun h => ?_)
        · have e9 : ids.any goR = true := List.any_eq_true.2 ⟨id, hmem, hv.trans h⟩
          rw [e9]
          repeat (first | refine LOps.nil ?_ | refine andThen_normal ?_ | refine andThen_exit ?_ | refine andThen_ret ?_ | refine inBlock_normal ?_ | refine inBlock_ret ?_ | refine inBlock_here ?_ | refine inBlock_out rfl ?_ | refine LWp.seq ?_ | refine LWp.region ?_ | refine LWp.block ?_ | refine LWp.exit ?_ | refine LWp.ret ?_ | refine LWp.skip ?_ | refine LOps.valA ?_ | refine LOps.outA ?_ | refine LOps.whenA ?_ | refine LOps.pickA ?_ | refine LOps.storeA ?_)
          exact ⟨_, LRes.one rfl, rfl, hle⟩
        · repeat (first | refine LOps.nil ?_ | refine andThen_normal ?_ | refine andThen_exit ?_ | refine andThen_ret ?_ | refine inBlock_normal ?_ | refine inBlock_ret ?_ | refine inBlock_here ?_ | refine inBlock_out rfl ?_ | refine LWp.seq ?_ | refine LWp.region ?_ | refine LWp.block ?_ | refine LWp.exit ?_ | refine LWp.ret ?_ | refine LWp.skip ?_ | refine LOps.valA ?_ | refine LOps.outA ?_ | refine LOps.whenA ?_ | refine LOps.pickA ?_ | refine LOps.storeA ?_)
          exact ⟨ids.length - (j + 1), by omega, _, j + 1, by omega, rfl, hle, k4, hlater (hv.trans h), holds.over ⟨rfl, rfl, rfl, rfl, rfl, trivial⟩⟩
      · have hmv : movesR evs id = false := by rw [movesR, hans]; exact h
        have hwr : wrongR evs m id = false := by rw [wrongR, hmv]; rfl
        have hnx : nextR evs m id = m := if_neg (by rw [hmv]; decide)
        repeat (first | refine LOps.nil ?_ | refine andThen_normal ?_ | refine andThen_exit ?_ | refine andThen_ret ?_ | refine inBlock_normal ?_ | refine inBlock_ret ?_ | refine inBlock_here ?_ | refine inBlock_out rfl ?_ | refine LWp.seq ?_ | refine LWp.region ?_ | refine LWp.block ?_ | refine LWp.exit ?_ | refine LWp.ret ?_ | refine LWp.skip ?_ | refine LOps.valA ?_ | refine LOps.outA ?_ | refine LOps.whenA ?_ | refine LOps.pickA ?_ | refine LOps.storeA ?_)
        repeat (first | refine LOps.nil ?_ | refine andThen_normal ?_ | refine andThen_exit ?_ | refine andThen_ret ?_ | refine inBlock_normal ?_ | refine inBlock_ret ?_ | refine inBlock_here ?_ | refine inBlock_out rfl ?_ | refine LWp.seq ?_ | refine LWp.region ?_ | refine LWp.block ?_ | refine LWp.exit ?_ | refine LWp.ret ?_ | refine LWp.skip ?_)
        have hle0 := hle
        have hrow1 : ∀ c ∈ iL row, c.length = 1 := fun c hc => by obtain ⟨x, _, rfl⟩ := List.mem_map.1 hc; rfl
        have hm5 : Small5 (m) ∧ (m).length ≤ m.length + 8 := ⟨h5, by omega⟩
        have cr := fun (G' : Ctx) (e : G'.P = G.P) => ih G' e (w) (m) (row ++ [id]) (ha) hm5.1 (by omega) (by rw [List.length_append, List.length_singleton]; omega) (by have := cntR_lt hmem hni; omega)
        refine LWp.drawF (fun q c => q < 9 ∧ S2.box c = none) [0, 1, 2, 4, 6, 7, 3, 5, 8, 9] (by rw [hP]; rfl) rfl ?_
        refine LRl.val (fun _ hS => LVal.load hD rfl rfl (hS.box _ _ k21 (fun h => by rw [k21] at h; cases h.2)) rfl rfl) rfl rfl rfl ?_
        refine LRl.valA ?_
        refine LRl.valA ?_
        refine LRl.valA ?_
        refine LRl.valA ?_
        refine LRl.val (r := .one (.sl .sh [[iv id]])) (fun _ _ => LVal.to (LVal.buildSlice hD rfl rfl rfl rfl rfl rfl rfl rfl rfl rfl) rfl) rfl rfl rfl ?_
        refine LRl.actA (LDo.buildSliceR (n := 0) (ps := []) (lp := []) (l := []) hD rfl rfl rfl rfl rfl rfl rfl rfl rfl rfl rfl).toAct rfl rfl rfl rfl (by rintro _ S5 ⟨b, hb, _, rfl⟩ q _; exact .inl (.of_le (LS.le.newBox (.refl _) hb _))) ?_
        rintro _ _ ⟨ba, hba, rfl, rfl⟩
        have l5 := LS.le.newBox (.refl S2) hba ([] : List LV)
        have keep : ∀ {S6 : LS}, S2.le S6 → ∀ q, S2.leX (fun c => q < 9 ∧ S2.box c = none) S6 := fun h q => .of_le h
        refine LRl.actA (LDo.copyInts hD hba rfl rfl rfl (by omega)).toAct rfl rfl rfl rfl (by
          rintro _ S6 ⟨X, _, _, l6, _⟩ q hq
          refine .inl ⟨fun c cs hc hn => ?_, fun c x hc => l6.obj c x hc⟩
          cases h2 : S2.box c with
          | none => exact absurd ⟨by omega, h2⟩ hn
          | some cs2 => rw [l5.box _ _ h2] at hc; rw [← hc]; exact l6.box _ _ h2) ?_
        rintro _ S6 ⟨X, rfl, p6, l6, nx6⟩
        refine LRl.actA (LDo.pushPt (f := fun x : Int => [iv x]) (z := 1) (v := id) hD (fun _ => rfl) rfl rfl rfl rfl rfl rfl rfl rfl rfl rfl rfl p6 (by omega)).toAct rfl rfl rfl rfl (by
          rintro _ S7 ⟨X', _, _, mv⟩ q hq
          refine .inl ⟨fun c cs hc hn => ?_, fun c x hc => mv.obj c x hc⟩
          cases h2 : S2.box c with
          | none => exact absurd ⟨by omega, h2⟩ hn
          | some cs2 => exact (mv.box c cs hc (fun e => by rw [nx6 c e] at h2; cases h2)).1) ?_
        rintro _ S7 ⟨X', rfl, p7, mv⟩
        have l7 : S2.le S7 := ⟨fun c cs hc => (mv.box c cs (l6.box c cs hc) (fun e => by rw [nx6 c e] at hc; cases hc)).1, fun c x hc => mv.row c x (l6.row c x hc), fun c x hc => mv.obj c x (l6.obj c x hc), Nat.le_trans l6.top mv.top⟩
        refine LRl.val (fun S' hS => LVal.callAny (fun G' e => cr G' e) rfl rfl (by rw [hP]; exact Try.func43) rfl (by decide) ⟨.agg ⟨.same _, trivial⟩, .one (.same _), .one (.same _), .one ((p7.keep fun c cs _ hc => hS.box c cs hc (fun h => absurd h.1 (by decide))).view (fun _ => rfl)), trivial⟩) rfl rfl rfl ?_
        repeat (first | refine LRl.nil ?_ | refine LRl.valA ?_ | refine LRl.outA ?_ | refine LRl.whenA ?_ | refine LRl.pickA ?_)
        refine andThen_normal ?_
        have hv : goR id = rowsS evs ids n (m) (row ++ [id]) := by rw [hgo, hni, hf, hwr, hnx]; rfl
        replace hle := hle0.trans l7
        replace k4 := l7.box _ _ k4
        repeat (first | refine LOps.nil ?_ | refine andThen_normal ?_ | refine andThen_exit ?_ | refine andThen_ret ?_ | refine inBlock_normal ?_ | refine inBlock_ret ?_ | refine inBlock_here ?_ | refine inBlock_out rfl ?_ | refine LWp.seq ?_ | refine LWp.region ?_ | refine LWp.block ?_ | refine LWp.exit ?_ | refine LWp.ret ?_ | refine LWp.skip ?_ | refine LOps.valA ?_ | refine LOps.outA ?_ | refine LOps.whenA ?_ | refine LOps.pickA ?_ | refine LOps.storeA ?_)
        refine LWp.cond rfl (fun h => ?_) (fun h => ?_)
        · have e9 : ids.any goR = true := List.any_eq_true.2 ⟨id, hmem, hv.trans h⟩
          rw [e9]
          repeat (first | refine LOps.nil ?_ | refine andThen_normal ?_ | refine andThen_exit ?_ | refine andThen_ret ?_ | refine inBlock_normal ?_ | refine inBlock_ret ?_ | refine inBlock_here ?_ | refine inBlock_out rfl ?_ | refine LWp.seq ?_ | refine LWp.region ?_ | refine LWp.block ?_ | refine LWp.exit ?_ | refine LWp.ret ?_ | refine LWp.skip ?_ | refine LOps.valA ?_ | refine LOps.outA ?_ | refine LOps.whenA ?_ | refine LOps.pickA ?_ | refine LOps.storeA ?_)
          exact ⟨_, LRes.one rfl, rfl, hle⟩
        · repeat (first | refine LOps.nil ?_ | refine andThen_normal ?_ | refine andThen_exit ?_ | refine andThen_ret ?_ | refine inBlock_normal ?_ | refine inBlock_ret ?_ | refine inBlock_here ?_ | refine inBlock_out rfl ?_ | refine LWp.seq ?_ | refine LWp.region ?_ | refine LWp.block ?_ | refine LWp.exit ?_ | refine LWp.ret ?_ | refine LWp.skip ?_ | refine LOps.valA ?_ | refine LOps.outA ?_ | refine LOps.whenA ?_ | refine LOps.pickA ?_ | refine LOps.storeA ?_)
          exact ⟨ids.length - (j + 1), by omega, _, j + 1, by omega, rfl, hle, k4, hlater (hv.trans h), holds.over ⟨rfl, rfl, rfl, rfl, rfl, trivial⟩⟩
    have hge : j = ids.length := by rw [him] at h; simp at h; omega
    subst hge
    rw [any_of (fun i hi => hno i hi hi)]
    repeat (first | refine LOps.nil ?_ | refine andThen_normal ?_ | refine andThen_exit ?_ | refine andThen_ret ?_ | refine inBlock_normal ?_ | refine inBlock_ret ?_ | refine inBlock_here ?_ | refine inBlock_out rfl ?_ | refine LWp.seq ?_ | refine LWp.region ?_ | refine LWp.block ?_ | refine LWp.exit ?_ | refine LWp.ret ?_ | refine LWp.skip ?_ | refine LOps.valA ?_ | refine LOps.outA ?_ | refine LOps.whenA ?_ | refine LOps.pickA ?_ | refine LOps.storeA ?_)
    exact ⟨_, LRes.one rfl, rfl, hle⟩
end Go.Proofs.Ytandbjhedkgldaa.LF
end

section
/- The document's Some; LinearSome. -/
namespace Go.Proofs.Ytandbjhedkgldaa.LF
open Go.RowKit H
set_option linter.unusedVariables false
attribute [local irreducible] andThen inBlock LWp LOps LCalls

theorem cntR_nil (ids : List Int) : cntR ids [] < ids.length + 1 := by
  have := List.countP_le_length (p := fun id => !inS [] id) (l := ids)
  unfold cntR; omega
set_option maxHeartbeats 4000000 in
theorem refSome_F {G : Ctx} (hP : G.P = Try.prog) (l : List Pr) (evs : List Ev) (ok : Ok8 l evs) :
    LFun G 20 [.one (.sl .sh (l.map prL)), .one (.sl .sh (evs.map evL))] (.one (bv (refSomeS l evs))) := LFun.of fun S => by
  have hD : TabOK G.P D := by rw [hP]; exact hD0
  have hne := ok.ne
  have hnl := ok.nl
  have hnp := newP_length l
  have him : (iL (idsS evs)).length = (idsS evs).length := List.length_map ..
  refine LCalls.enter (fn := Try.f20) (by rw [hP]; exact Try.func20) rfl rfl ?_
  repeat (first | refine LOps.nil ?_ | refine andThen_normal ?_ | refine andThen_exit ?_ | refine andThen_ret ?_ | refine inBlock_normal ?_ | refine inBlock_ret ?_ | refine inBlock_here ?_ | refine inBlock_out rfl ?_ | refine LWp.seq ?_ | refine LWp.region ?_ | refine LWp.block ?_ | refine LWp.exit ?_ | refine LWp.ret ?_ | refine LWp.skip ?_ | refine LOps.val (LVal.call rfl rfl (by rw [hP]; exact Try.func29) rfl (by decide) (refCheck_F hP evs (by omega))) rfl rfl rfl ?_ | refine LOps.val (LVal.call rfl rfl (by rw [hP]; exact Try.func42) rfl (by decide) (ids_F hP evs (by omega))) rfl rfl rfl ?_ | refine LOps.whenC (LVal.call rfl rfl (by rw [hP]; exact Try.func29) rfl (by decide) (refCheck_F hP evs (by omega))) ?_ | refine LOps.whenC (LVal.call rfl rfl (by rw [hP]; exact Try.func42) rfl (by decide) (ids_F hP evs (by omega))) ?_ | refine LOps.valA ?_ | refine LOps.outA ?_ | refine LOps.whenA ?_ | refine LOps.pickA ?_ | refine LOps.storeA ?_)
  refine LWp.cond rfl (fun h => ?_) (fun h => ?_)
  · have h1 : (((checkS (fun _ => noKn) evs 0).2 != 0) || decide (((idsS evs).length : Int) > 7)) = true := by rw [← him]; exact h
    have e : refSomeS l evs = false := if_pos h1
    rw [e]
    repeat (first | refine LOps.nil ?_ | refine andThen_normal ?_ | refine andThen_exit ?_ | refine andThen_ret ?_ | refine inBlock_normal ?_ | refine inBlock_ret ?_ | refine inBlock_here ?_ | refine inBlock_out rfl ?_ | refine LWp.seq ?_ | refine LWp.region ?_ | refine LWp.block ?_ | refine LWp.exit ?_ | refine LWp.ret ?_ | refine LWp.skip ?_ | refine LOps.valA ?_ | refine LOps.outA ?_ | refine LOps.whenA ?_ | refine LOps.pickA ?_ | refine LOps.storeA ?_)
    exact ⟨_, LRes.one rfl, rfl, .refl _⟩
  have h1 : (((checkS (fun _ => noKn) evs 0).2 != 0) || decide (((idsS evs).length : Int) > 7)) = false := by rw [← him]; exact h
  have e : refSomeS l evs = rowsS evs (idsS evs) ((idsS evs).length + 1) (newP l) [] := if_neg (by rw [h1]; decide)
  rw [e]
  have h7 : (idsS evs).length ≤ 7 := by
    have := of_decide_eq_false (Bool.or_eq_false_iff.1 h1).2
    omega
  have cr := rows_F hP evs (by omega) ok.os (idsS evs) h7 ((idsS evs).length + 1) (newW l) (newP l) [] (Alike.new l) ok.ps.newP (by omega) (by simp; omega) (cntR_nil _)
  repeat (first | refine LOps.nil ?_ | refine andThen_normal ?_ | refine andThen_exit ?_ | refine andThen_ret ?_ | refine inBlock_normal ?_ | refine inBlock_ret ?_ | refine inBlock_here ?_ | refine inBlock_out rfl ?_ | refine LWp.seq ?_ | refine LWp.region ?_ | refine LWp.block ?_ | refine LWp.exit ?_ | refine LWp.ret ?_ | refine LWp.skip ?_ | refine LOps.val (LVal.call rfl rfl (by rw [hP]; exact Try.func30) rfl (by decide) (newW_F hP l (by omega))) rfl rfl rfl ?_ | refine LOps.val (LVal.call rfl rfl (by rw [hP]; exact Try.func43) rfl (by decide) (cr)) rfl rfl rfl ?_ | refine LOps.whenC (LVal.call rfl rfl (by rw [hP]; exact Try.func30) rfl (by decide) (newW_F hP l (by omega))) ?_ | refine LOps.whenC (LVal.call rfl rfl (by rw [hP]; exact Try.func43) rfl (by decide) (cr)) ?_ | refine LOps.valA ?_ | refine LOps.outA ?_ | refine LOps.whenA ?_ | refine LOps.pickA ?_ | refine LOps.storeA ?_)
  exact ⟨_, LRes.one rfl, rfl, .refl _⟩

set_option maxHeartbeats 4000000 in
theorem some8_L {G : Ctx} (hP : G.P = Try.prog) (l : List Pr) (evs : List Ev) (S : LS) : LCalls G 4 [.one (.sl .sh (l.map prL)), .one (.sl .sh (evs.map evL))] (fun r _ => r = .one (bv true)) S := by
  have hD : TabOK G.P D := by rw [hP]; exact hD0
  have cw := wakes8_F hP
  refine LCalls.enter (fn := Try.f4) (by rw [hP]; exact Try.func4) rfl rfl ?_
  repeat (first | refine LOps.nil ?_ | refine andThen_normal ?_ | refine andThen_exit ?_ | refine andThen_ret ?_ | refine inBlock_normal ?_ | refine inBlock_ret ?_ | refine inBlock_here ?_ | refine inBlock_out rfl ?_ | refine LWp.seq ?_ | refine LWp.region ?_ | refine LWp.block ?_ | refine LWp.exit ?_ | refine LWp.ret ?_ | refine LWp.skip ?_ | refine LOps.val (LVal.call rfl rfl (by rw [hP]; exact Try.func9) rfl (by decide) (great8_F hP l evs)) rfl rfl rfl ?_ | refine LOps.whenC (LVal.call rfl rfl (by rw [hP]; exact Try.func9) rfl (by decide) (great8_F hP l evs)) ?_ | refine LOps.valA ?_ | refine LOps.outA ?_ | refine LOps.whenA ?_ | refine LOps.pickA ?_ | refine LOps.storeA ?_)
  refine LWp.cond rfl (fun h => ?_) (fun h => ?_)
  · repeat (first | refine LOps.nil ?_ | refine andThen_normal ?_ | refine andThen_exit ?_ | refine andThen_ret ?_ | refine inBlock_normal ?_ | refine inBlock_ret ?_ | refine inBlock_here ?_ | refine inBlock_out rfl ?_ | refine LWp.seq ?_ | refine LWp.region ?_ | refine LWp.block ?_ | refine LWp.exit ?_ | refine LWp.ret ?_ | refine LWp.skip ?_ | refine LOps.val (LVal.call rfl rfl (by rw [hP]; exact Try.func10) rfl (by decide) (cw)) rfl rfl rfl ?_ | refine LOps.whenC (LVal.call rfl rfl (by rw [hP]; exact Try.func10) rfl (by decide) (cw)) ?_ | refine LOps.valA ?_ | refine LOps.outA ?_ | refine LOps.whenA ?_ | refine LOps.pickA ?_ | refine LOps.storeA ?_)
    exact ⟨_, LRes.one rfl, rfl⟩
  have h := (Bool.or_eq_false_iff.1 h).1
  have ok := ok8_of h
  have hne := ok.ne
  have hnl := ok.nl
  have c1 := some_F hP l (by omega) evs (by omega)
  have c2 := refSome_F hP l evs ok
  rw [refSome_eq] at c2
  generalize someS l evs = X at *
  repeat (first | refine LOps.nil ?_ | refine andThen_normal ?_ | refine andThen_exit ?_ | refine andThen_ret ?_ | refine inBlock_normal ?_ | refine inBlock_ret ?_ | refine inBlock_here ?_ | refine inBlock_out rfl ?_ | refine LWp.seq ?_ | refine LWp.region ?_ | refine LWp.block ?_ | refine LWp.exit ?_ | refine LWp.ret ?_ | refine LWp.skip ?_ | refine LOps.val (LVal.call rfl rfl (by rw [hP]; exact Try.func19) rfl (by decide) (c1)) rfl rfl rfl ?_ | refine LOps.val (LVal.call rfl rfl (by rw [hP]; exact Try.func20) rfl (by decide) (c2)) rfl rfl rfl ?_ | refine LOps.val (LVal.call rfl rfl (by rw [hP]; exact Try.func10) rfl (by decide) (cw)) rfl rfl rfl ?_ | refine LOps.whenC (LVal.call rfl rfl (by rw [hP]; exact Try.func19) rfl (by decide) (c1)) ?_ | refine LOps.whenC (LVal.call rfl rfl (by rw [hP]; exact Try.func20) rfl (by decide) (c2)) ?_ | refine LOps.whenC (LVal.call rfl rfl (by rw [hP]; exact Try.func10) rfl (by decide) (cw)) ?_ | refine LOps.valA ?_ | refine LOps.outA ?_ | refine LOps.whenA ?_ | refine LOps.pickA ?_ | refine LOps.storeA ?_)
  exact ⟨_, LRes.one rfl, isTrue _ (by cases X <;> rfl)⟩
end Go.Proofs.Ytandbjhedkgldaa.LF

namespace Go.Proofs.Ytandbjhedkgldaa
open Go.RowKit LF
theorem linearSome_walk (W : World) (v0 : Value) (l0 : List LV) (y0 : Typed LF.D 22 l0) (g0 : RepT (G0 Try.prog W) W (allCells W) (argTV ti22 l0) v0) (v1 : Value) (l1 : List LV) (y1 : Typed LF.D 23 l1) (g1 : RepT (G0 Try.prog W) W (allCells W) (argTV ti23 l1) v1) :
    Calls Try.prog 4 #[v0, v1] W fun e W' => e = .returned (.bool true) ∧ Below W.heap.size W W' := by
  obtain ⟨l, rfl⟩ := LF.typed_prs y0
  obtain ⟨evs, rfl⟩ := H.typed_evs y1
  exact law_calls (fun G S h => some8_L h l evs S) (.cons (vs := [v1]) g0 (.cons (vs := []) g1 .nil))
end Go.Proofs.Ytandbjhedkgldaa
end
