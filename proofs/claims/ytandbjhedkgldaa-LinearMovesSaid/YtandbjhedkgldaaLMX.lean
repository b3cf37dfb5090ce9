/- Parts of the frame, one behind the other: LLz LLx LMo2. (Printed by merge.py.) -/
import Derived.Test.YtandbjhedkgldaaLLw
section
/- LinearMoves, plain: two marks side by side change places. -/
namespace Go.Proofs.Ytandbjhedkgldaa.LF
open Go.RowKit H
set_option linter.unusedVariables false

theorem find_swap {p : Ev → Bool} {a b : Ev} (pre post : List Ev) (h : p a = false ∨ p b = false) : (pre ++ b :: a :: post).find? p = (pre ++ a :: b :: post).find? p := by
  rw [List.find?_append, List.find?_append]
  congr 1
  rcases h with h | h
  · simp [List.find?_cons, h]
  · simp [List.find?_cons, h]
theorem count_swap (k id : Int) (a b : Ev) (pre post : List Ev) : countS (pre ++ b :: a :: post) k id = countS (pre ++ a :: b :: post) k id := by
  unfold countS
  rw [List.countP_append, List.countP_append, List.countP_cons, List.countP_cons, List.countP_cons, List.countP_cons]
  omega
theorem fits_swap {a b e : Ev} (pre post : List Ev) (hne : a.id ≠ b.id) : fitsS (pre ++ b :: a :: post) e = fitsS (pre ++ a :: b :: post) e := by
  have ha : answerS (pre ++ b :: a :: post) e.id = answerS (pre ++ a :: b :: post) e.id := by
    unfold answerS
    rw [find_swap pre post (p := isEv 2 e.id)]
    by_cases h : a.id = e.id
    · exact .inr (isEv_id (fun h2 => hne (h.trans h2.symm)))
    · exact .inl (isEv_id h)
  unfold fitsS
  rw [count_swap 1 e.id a b pre post, count_swap 2 e.id a b pre post, count_swap 3 e.id a b pre post, ha]
theorem fits_one {x e : Ev} (w : List Ev) (hne : x.id ≠ e.id) : fitsS (w ++ [x]) e = fitsS w e := by
  have hx : ∀ k, isEv k e.id x = false := fun k => isEv_id hne
  have ha : answerS (w ++ [x]) e.id = answerS w e.id := by
    rw [answer_snoc]
    by_cases h : countS w 2 e.id = 0
    · rw [if_pos h, hx, if_neg (by decide), answer_none h]
    · rw [if_neg h]
  unfold fitsS
  rw [count_snoc, count_snoc, count_snoc, hx, hx, hx, ha]
  rfl
theorem swap_ids {pre post : List Ev} {a b : Ev} (R : Right (pre ++ a :: b :: post)) (ka : a.kind = 2) (kb : b.kind = 2) : a.id ≠ b.id := fun h => by
  have hp : pre.length < (pre ++ a :: b :: post).length := by simp
  have hq : pre.length + 1 < (pre ++ a :: b :: post).length := by simp
  have ea : (pre ++ a :: b :: post)[pre.length] = a := by simp
  have eb : (pre ++ a :: b :: post)[pre.length + 1] = b := by simp
  have := R.mark_one hp hq (x := a.id) (by rw [ea, isEv_iff]; exact ⟨ka, rfl⟩) (by rw [eb, isEv_iff]; exact ⟨kb, h.symm⟩)
  omega
/-- The row with the two marks in each other's place is right. -/
theorem swap_right {pre post : List Ev} {a b : Ev} (R : Right (pre ++ a :: b :: post)) (ka : a.kind = 2) (kb : b.kind = 2) : Right (pre ++ b :: a :: post) := by
  have hne := swap_ids R ka kb
  have fa : fitsS pre a = true := by
    have := R pre.length (by simp)
    simpa using this
  have fb : fitsS pre b = true := by
    have := R (pre.length + 1) (by simp)
    rw [List.take_append, List.take_of_length_le (by omega)] at this
    simp only [Nat.add_sub_cancel_left, List.take_succ_cons, List.take_zero] at this
    rw [fits_one pre (by simpa using hne)] at this
    simpa using this
  intro j hj
  by_cases h1 : j < pre.length
  · have := R j (by simp at hj ⊢; omega)
    rw [List.getElem_append_left h1, List.take_append_of_le_length (by omega)] at this ⊢
    exact this
  by_cases h2 : j = pre.length
  · subst h2; simpa using fb
  by_cases h3 : j = pre.length + 1
  · subst h3
    rw [List.take_append, List.take_of_length_le (by omega)]
    simp only [Nat.add_sub_cancel_left, List.take_succ_cons, List.take_zero]
    have e : (pre ++ b :: a :: post)[pre.length + 1] = a := by simp
    rw [e, fits_one pre (Ne.symm hne)]
    exact fa
  · obtain ⟨q, rfl⟩ : ∃ q, j = pre.length + 2 + q := ⟨j - (pre.length + 2), by omega⟩
    have hj2 : pre.length + 2 + q < (pre ++ a :: b :: post).length := by simp at hj ⊢; omega
    have := R _ hj2
    have t1 : ∀ c d : Ev, (pre ++ c :: d :: post).take (pre.length + 2 + q) = pre ++ c :: d :: post.take q := fun c d => by
      rw [List.take_append, List.take_of_length_le (by omega), show pre.length + 2 + q - pre.length = q + 1 + 1 by omega, List.take_succ_cons, List.take_succ_cons]
    rw [t1] at this ⊢
    rw [fits_swap pre _ hne]
    have e : (pre ++ b :: a :: post)[pre.length + 2 + q] = (pre ++ a :: b :: post)[pre.length + 2 + q] := by
      rw [List.getElem_append_right (by omega), List.getElem_append_right (by omega)]
      simp [show pre.length + 2 + q - pre.length = q + 2 by omega]
    rw [e]; exact this
theorem stepB_swap {s : List Pr × Bool} (hs : Srt s.1) (ops : Int → OpV) (a b : Ev) (h : ∀ k, k ∈ keysO (ops a.id) → k ∉ keysO (ops b.id)) (h5a : (ops a.id).kind ≠ 5) (h5b : (ops b.id).kind ≠ 5) :
    stepB ops (stepB ops s a) b = stepB ops (stepB ops s b) a := by
  have h' : ∀ k, k ∈ keysO (ops b.id) → k ∉ keysO (ops a.id) := fun k hb ha => h k ha hb
  unfold stepB
  by_cases ca : ((a.kind != 2) || idleS a.ans) = true
  · by_cases cb : ((b.kind != 2) || idleS b.ans) = true
    · simp only [if_pos ca, if_pos cb]
    · simp only [if_pos ca, if_neg cb]
  · by_cases cb : ((b.kind != 2) || idleS b.ans) = true
    · simp only [if_neg ca, if_pos cb]
    · simp only [if_neg ca, if_neg cb]
      rw [doM_swap hs _ _ h, doA_swap hs _ _ h5b h, doA_swap hs _ _ h5a h']
      congr 1
      cases s.2 <;> cases decide (doA s.1 (ops a.id) = a.ans) <;> cases decide (doA s.1 (ops b.id) = b.ans) <;> rfl
theorem foldB_srt (ops : Int → OpV) : ∀ (l : List Ev) (s : List Pr × Bool), Srt s.1 → Srt (l.foldl (stepB ops) s).1
  | [], _, h => h
  | e :: l, s, h => foldB_srt ops l _ (by
    unfold stepB
    split
    · exact h
    · exact doM_srt h _)
theorem opOf_swap {pre post : List Ev} {a b : Ev} (ka : a.kind = 2) (id : Int) : opOf (pre ++ b :: a :: post) id = opOf (pre ++ a :: b :: post) id := by
  unfold opOf findE
  rw [find_swap pre post (p := isEv 1 id) (.inl (isEv_kind (by omega)))]
/-- The swapped row is as right, and comes to the same. -/
theorem move_same {l : List Pr} {pre post : List Ev} {a b : Ev} (h0 : (checkS (fun _ => noKn) (pre ++ a :: b :: post) 0).2 = 0) (ka : a.kind = 2) (kb : b.kind = 2)
    (h : ∀ k, k ∈ keysO (opOf (pre ++ a :: b :: post) a.id) → k ∉ keysO (opOf (pre ++ a :: b :: post) b.id)) (h5a : (opOf (pre ++ a :: b :: post) a.id).kind ≠ 5) (h5b : (opOf (pre ++ a :: b :: post) b.id).kind ≠ 5) :
    (checkL l (pre ++ b :: a :: post)).2 = (checkL l (pre ++ a :: b :: post)).2 ∧ afterL l (pre ++ b :: a :: post) = afterL l (pre ++ a :: b :: post) := by
  have R := right_of_check h0
  have Rk := swap_right R ka kb
  have h0k : (checkS (fun _ => noKn) (pre ++ b :: a :: post) 0).2 = 0 := by rw [check_of_ok (ok_of_right Rk)]
  have key : (wit l (pre ++ b :: a :: post)).1 = (wit l (pre ++ a :: b :: post)).1 ∧ decide ((wit l (pre ++ b :: a :: post)).2 < 0) = decide ((wit l (pre ++ a :: b :: post)).2 < 0) := by
    rw [wit_of R, wit_of Rk]
    obtain ⟨a1, a2⟩ := runT_B (opOf (pre ++ a :: b :: post)) (pre ++ a :: b :: post) (newP l) _ (Nat.le_refl _)
    obtain ⟨b1, b2⟩ := runT_B (opOf (pre ++ b :: a :: post)) (pre ++ b :: a :: post) (newP l) _ (Nat.le_refl _)
    rw [List.take_length] at a1 a2 b1 b2
    have e : (pre ++ b :: a :: post).foldl (stepB (opOf (pre ++ b :: a :: post))) (newP l, true) = (pre ++ a :: b :: post).foldl (stepB (opOf (pre ++ a :: b :: post))) (newP l, true) := by
      rw [show opOf (pre ++ b :: a :: post) = opOf (pre ++ a :: b :: post) from funext (opOf_swap ka)]
      generalize opOf (pre ++ a :: b :: post) = ops at *
      rw [List.foldl_append, List.foldl_append, List.foldl_cons, List.foldl_cons, List.foldl_cons, List.foldl_cons]
      rw [stepB_swap (foldB_srt ops pre _ (newP_srt l)) ops a b h h5a h5b]
    rw [e] at b1 b2
    exact ⟨b1.trans a1.symm, b2.trans a2.symm⟩
  obtain ⟨k1, k2⟩ := key
  have cl : ∀ (x : List Ev), (checkS (fun _ => noKn) x 0).2 = 0 → (checkL l x).2 = if (wit l x).2 < 0 then 0 else 32 := fun x hx => by
    unfold checkL
    rw [if_neg (by rw [hx]; decide)]
    by_cases c : (wit l x).2 < 0
    · rw [if_pos c, if_neg (by simp; omega)]
    · rw [if_neg c, if_pos (by simp; omega)]
  have al : ∀ (x : List Ev), (checkS (fun _ => noKn) x 0).2 = 0 → afterL l x = (wit l x).1 := fun x hx => by
    unfold afterL
    rw [if_neg (by rw [hx]; decide)]
  rw [cl _ h0, cl _ h0k, al _ h0, al _ h0k]
  refine ⟨?_, k1⟩
  by_cases c : (wit l (pre ++ a :: b :: post)).2 < 0
  · have c2 : (wit l (pre ++ b :: a :: post)).2 < 0 := by rw [decide_eq_true c] at k2; exact of_decide_eq_true k2
    rw [if_pos c, if_pos c2]
  · have c2 : ¬ (wit l (pre ++ b :: a :: post)).2 < 0 := by rw [decide_eq_false c] at k2; exact of_decide_eq_false k2
    rw [if_neg c, if_neg c2]
end Go.Proofs.Ytandbjhedkgldaa.LF
end

section
/- LinearMoves: names, apart. -/
namespace Go.Proofs.Ytandbjhedkgldaa.LF
open Go.RowKit H
set_option linter.unusedVariables false
attribute [local irreducible] andThen inBlock LWp LOps LCalls

abbrev tL (xs : List ByteArray) : List (List LV) := xs.map fun x => [sv x]
def namesK (o : OpV) : List ByteArray := if o.kind = 5 then [] else keysO o
def namesOk (o : OpV) : Bool := !(o.kind == 5)
set_option maxHeartbeats 4000000 in
theorem names_F {G : Ctx} (hP : G.P = Try.prog) (o : OpV) (hl : o.writes.length ≤ 1000) : LFun G 47 [.agg (opL o)] (.tup [.one (.sl .sh (tL (namesK o))), .one (bv (namesOk o))]) := LFun.of fun S => by
  have hD : TabOK G.P D := by rw [hP]; exact hD0
  refine LCalls.enter (fn := Try.f47) (by rw [hP]; exact Try.func47) rfl rfl ?_
  repeat (first | refine LOps.nil ?_ | refine andThen_normal ?_ | refine andThen_exit ?_ | refine andThen_ret ?_ | refine inBlock_normal ?_ | refine inBlock_ret ?_ | refine inBlock_here ?_ | refine inBlock_out rfl ?_ | refine LWp.seq ?_ | refine LWp.region ?_ | refine LWp.block ?_ | refine LWp.exit ?_ | refine LWp.ret ?_ | refine LWp.skip ?_ | refine LOps.valA ?_ | refine LOps.outA ?_ | refine LOps.whenA ?_ | refine LOps.pickA ?_ | refine LOps.storeA ?_)
  refine LOps.do (LDo.box rfl rfl) rfl rfl rfl ?_
  rintro _ _ ⟨b1, hb1, rfl, rfl⟩
  have hle := LS.le.newBox (.refl S) hb1 (opL o)
  have k1 : (S.newBox b1 (opL o)).box b1 = some (opL o) := box_new _ _ _
  repeat (first | refine LOps.nil ?_ | refine andThen_normal ?_ | refine andThen_exit ?_ | refine andThen_ret ?_ | refine inBlock_normal ?_ | refine inBlock_ret ?_ | refine inBlock_here ?_ | refine inBlock_out rfl ?_ | refine LWp.seq ?_ | refine LWp.region ?_ | refine LWp.block ?_ | refine LWp.exit ?_ | refine LWp.ret ?_ | refine LWp.skip ?_ | refine LOps.valA ?_ | refine LOps.outA ?_ | refine LOps.whenA ?_ | refine LOps.pickA ?_ | refine LOps.storeA ?_)
  refine LWp.cond rfl (fun h => ?_) (fun h => ?_)
  · have h5 : o.kind = 5 := by simpa using h
    repeat (first | refine LOps.nil ?_ | refine andThen_normal ?_ | refine andThen_exit ?_ | refine andThen_ret ?_ | refine inBlock_normal ?_ | refine inBlock_ret ?_ | refine inBlock_here ?_ | refine inBlock_out rfl ?_ | refine LWp.seq ?_ | refine LWp.region ?_ | refine LWp.block ?_ | refine LWp.exit ?_ | refine LWp.ret ?_ | refine LWp.skip ?_ | refine LOps.valA ?_ | refine LOps.outA ?_ | refine LOps.whenA ?_ | refine LOps.pickA ?_ | refine LOps.storeA ?_)
    exact ⟨_, LRes.sh (LRes.two rfl), by rw [namesK, namesOk, if_pos h5, h5]; rfl, hle⟩
  have h5 : ¬ o.kind = 5 := by simpa using h
  have hok : namesOk o = true := by simp [namesOk, h5]
  repeat (first | refine LOps.nil ?_ | refine andThen_normal ?_ | refine andThen_exit ?_ | refine andThen_ret ?_ | refine inBlock_normal ?_ | refine inBlock_ret ?_ | refine inBlock_here ?_ | refine inBlock_out rfl ?_ | refine LWp.seq ?_ | refine LWp.region ?_ | refine LWp.block ?_ | refine LWp.exit ?_ | refine LWp.ret ?_ | refine LWp.skip ?_ | refine LOps.valA ?_ | refine LOps.outA ?_ | refine LOps.whenA ?_ | refine LOps.pickA ?_ | refine LOps.storeA ?_)
  refine LWp.cond rfl (fun h => ?_) (fun h => ?_)
  · have h6 : ¬ o.kind = 6 := by simpa using h
    repeat (first | refine LOps.nil ?_ | refine andThen_normal ?_ | refine andThen_exit ?_ | refine andThen_ret ?_ | refine inBlock_normal ?_ | refine inBlock_ret ?_ | refine inBlock_here ?_ | refine inBlock_out rfl ?_ | refine LWp.seq ?_ | refine LWp.region ?_ | refine LWp.block ?_ | refine LWp.exit ?_ | refine LWp.ret ?_ | refine LWp.skip ?_ | refine LOps.valA ?_ | refine LOps.outA ?_ | refine LOps.whenA ?_ | refine LOps.pickA ?_ | refine LOps.storeA ?_)
    exact ⟨_, LRes.sh (LRes.two rfl), by rw [hok, namesK, if_neg h5, keysO, if_neg h6]; rfl, hle⟩
  have h6 : o.kind = 6 := by simpa using h
  have hkk : namesK o = o.writes.map (·.key) := by rw [namesK, if_neg h5, keysO, if_pos h6]
  rw [hok, hkk]
  repeat (first | refine LOps.nil ?_ | refine andThen_normal ?_ | refine andThen_exit ?_ | refine andThen_ret ?_ | refine inBlock_normal ?_ | refine inBlock_ret ?_ | refine inBlock_here ?_ | refine inBlock_out rfl ?_ | refine LWp.seq ?_ | refine LWp.region ?_ | refine LWp.block ?_ | refine LWp.exit ?_ | refine LWp.ret ?_ | refine LWp.skip ?_ | refine LOps.valA ?_ | refine LOps.outA ?_ | refine LOps.whenA ?_ | refine LOps.pickA ?_ | refine LOps.storeA ?_)
  have hml : (o.writes.map wrL).length = o.writes.length := List.length_map ..
  generalize S.newBox b1 (opL o) = S1 at *
  refine LWp.loop (fun k T S' => ∃ T' j o', j ≤ o.writes.length ∧ k = o.writes.length - j ∧ S1.le S' ∧ Owned S' 9 j o' ∧ Out S1 o' ∧ T = over T' [(1, ptr b1), (4, .one (.sl o' (tL ((o.writes.take j).map (·.key))))), (5, .one (iv j))]) o.writes.length ?_ ?_
  · exact ⟨_, 0, .nil, by omega, by omega, .refl _, rfl, .nil _, holds.over ⟨rfl, rfl, rfl, trivial⟩⟩
  rintro k T S' ⟨T', j, o', hj, rfl, hl2, hown, hout, rfl⟩
  have q1 := hl2.box _ _ k1
  repeat (first | refine LOps.nil ?_ | refine andThen_normal ?_ | refine andThen_exit ?_ | refine andThen_ret ?_ | refine inBlock_normal ?_ | refine inBlock_ret ?_ | refine inBlock_here ?_ | refine inBlock_out rfl ?_ | refine LWp.seq ?_ | refine LWp.region ?_ | refine LWp.block ?_ | refine LWp.exit ?_ | refine LWp.ret ?_ | refine LWp.skip ?_ | refine LOps.valA ?_ | refine LOps.outA ?_ | refine LOps.whenA ?_ | refine LOps.pickA ?_ | refine LOps.storeA ?_)
  refine LWp.cond rfl (fun h => ?_) (fun h => ?_)
  · have hlt : j < o.writes.length := by simpa using h
    repeat (first | refine LOps.nil ?_ | refine andThen_normal ?_ | refine andThen_exit ?_ | refine andThen_ret ?_ | refine inBlock_normal ?_ | refine inBlock_ret ?_ | refine inBlock_here ?_ | refine inBlock_out rfl ?_ | refine LWp.seq ?_ | refine LWp.region ?_ | refine LWp.block ?_ | refine LWp.exit ?_ | refine LWp.ret ?_ | refine LWp.skip ?_ | refine LOps.valA ?_ | refine LOps.outA ?_ | refine LOps.whenA ?_ | refine LOps.pickA ?_ | refine LOps.storeA ?_)
    refine LOps.do (LDo.push hD rfl rfl rfl rfl rfl rfl rfl rfl rfl rfl (show _ = j by simp; omega) hown (by omega)) rfl rfl rfl ?_
    rintro _ S3 ⟨o3, rfl, own3, hup, hno⟩
    repeat (first | refine LOps.nil ?_ | refine andThen_normal ?_ | refine andThen_exit ?_ | refine andThen_ret ?_ | refine inBlock_normal ?_ | refine inBlock_ret ?_ | refine inBlock_here ?_ | refine inBlock_out rfl ?_ | refine LWp.seq ?_ | refine LWp.region ?_ | refine LWp.block ?_ | refine LWp.exit ?_ | refine LWp.ret ?_ | refine LWp.skip ?_ | refine LOps.valA ?_ | refine LOps.outA ?_ | refine LOps.whenA ?_ | refine LOps.pickA ?_ | refine LOps.storeA ?_)
    refine ⟨o.writes.length - (j + 1), by omega, _, j + 1, o3, by omega, rfl, hl2.upto hup hout, own3, hout.next hl2 hno, holds.over ⟨rfl, ?_, rfl, trivial⟩⟩
    rw [map_take_succ _ hlt]; exact Eq.trans rfl (congrArg (fun x => TV.one (LV.sl o3 x)) (List.map_append (f := fun x => [sv x]) (l₁ := (o.writes.take j).map (·.key)) (l₂ := [o.writes[j].key])).symm)
  · have hge : o.writes.length ≤ j := by simpa using h
    repeat (first | refine LOps.nil ?_ | refine andThen_normal ?_ | refine andThen_exit ?_ | refine andThen_ret ?_ | refine inBlock_normal ?_ | refine inBlock_ret ?_ | refine inBlock_here ?_ | refine inBlock_out rfl ?_ | refine LWp.seq ?_ | refine LWp.region ?_ | refine LWp.block ?_ | refine LWp.exit ?_ | refine LWp.ret ?_ | refine LWp.skip ?_ | refine LOps.valA ?_ | refine LOps.outA ?_ | refine LOps.whenA ?_ | refine LOps.pickA ?_ | refine LOps.storeA ?_)
    refine ⟨_, LRes.sh (LRes.two rfl), ?_, hle.trans hl2⟩
    rw [List.take_of_length_le hge]; rfl
def meets (A B : List ByteArray) : Bool := A.any fun x => B.any fun y => decide (x = y)
def apartS (a b : OpV) : Bool := if meets (namesK a) (namesK b) = true then false else namesOk a && namesOk b
set_option maxHeartbeats 4000000 in
theorem apart_F {G : Ctx} (hP : G.P = Try.prog) (a b : OpV) (ha : a.writes.length ≤ 1000) (hb : b.writes.length ≤ 1000) : LFun G 23 [.agg (opL a), .agg (opL b)] (.one (bv (apartS a b))) := LFun.of fun S => by
  have hD : TabOK G.P D := by rw [hP]; exact hD0
  have ca := names_F hP a ha
  have cb := names_F hP b hb
  have nl : ∀ o : OpV, o.writes.length ≤ 1000 → (namesK o).length ≤ 1000 := fun o h => by
    unfold namesK keysO
    split
    · simp
    · split <;> simp; omega
  have hAl := nl a ha
  have hBl := nl b hb
  unfold apartS
  generalize namesK a = A at *
  generalize namesK b = B at *
  generalize namesOk a = x at *
  generalize namesOk b = y at *
  have hA : (tL A).length = A.length := List.length_map ..
  have hB : (tL B).length = B.length := List.length_map ..
  refine LCalls.enter (fn := Try.f23) (by rw [hP]; exact Try.func23) rfl rfl ?_
  repeat (first | refine LOps.nil ?_ | refine andThen_normal ?_ | refine andThen_exit ?_ | refine andThen_ret ?_ | refine inBlock_normal ?_ | refine inBlock_ret ?_ | refine inBlock_here ?_ | refine inBlock_out rfl ?_ | refine LWp.seq ?_ | refine LWp.region ?_ | refine LWp.block ?_ | refine LWp.exit ?_ | refine LWp.ret ?_ | refine LWp.skip ?_ | refine LOps.valA ?_ | refine LOps.outA ?_ | refine LOps.whenA ?_ | refine LOps.pickA ?_ | refine LOps.storeA ?_)
  refine LOps.do (LDo.box rfl rfl) rfl rfl rfl ?_
  rintro _ _ ⟨b2, hb2, rfl, rfl⟩
  have l2 := LS.le.newBox (.refl S) hb2 (opL a)
  have k2 : (S.newBox b2 (opL a)).box b2 = some (opL a) := box_new _ _ _
  repeat (first | refine LOps.nil ?_ | refine andThen_normal ?_ | refine andThen_exit ?_ | refine andThen_ret ?_ | refine inBlock_normal ?_ | refine inBlock_ret ?_ | refine inBlock_here ?_ | refine inBlock_out rfl ?_ | refine LWp.seq ?_ | refine LWp.region ?_ | refine LWp.block ?_ | refine LWp.exit ?_ | refine LWp.ret ?_ | refine LWp.skip ?_ | refine LOps.valA ?_ | refine LOps.outA ?_ | refine LOps.whenA ?_ | refine LOps.pickA ?_ | refine LOps.storeA ?_)
  refine LOps.do (LDo.box rfl rfl) rfl rfl rfl ?_
  rintro _ _ ⟨b3, hb3, rfl, rfl⟩
  have l3 := LS.le.newBox (.refl (S.newBox b2 (opL a))) hb3 (opL b)
  have q2 := l3.box _ _ k2
  have q3 : ((S.newBox b2 (opL a)).newBox b3 (opL b)).box b3 = some (opL b) := box_new _ _ _
  have hle := l2.trans l3
  generalize (S.newBox b2 (opL a)).newBox b3 (opL b) = S1 at *
  repeat (first | refine LOps.nil ?_ | refine andThen_normal ?_ | refine andThen_exit ?_ | refine andThen_ret ?_ | refine inBlock_normal ?_ | refine inBlock_ret ?_ | refine inBlock_here ?_ | refine inBlock_out rfl ?_ | refine LWp.seq ?_ | refine LWp.region ?_ | refine LWp.block ?_ | refine LWp.exit ?_ | refine LWp.ret ?_ | refine LWp.skip ?_ | refine LOps.val (LVal.call rfl rfl (by rw [hP]; exact Try.func47) rfl (by decide) (ca)) rfl rfl rfl ?_ | refine LOps.val (LVal.call rfl rfl (by rw [hP]; exact Try.func47) rfl (by decide) (cb)) rfl rfl rfl ?_ | refine LOps.whenC (LVal.call rfl rfl (by rw [hP]; exact Try.func47) rfl (by decide) (ca)) ?_ | refine LOps.whenC (LVal.call rfl rfl (by rw [hP]; exact Try.func47) rfl (by decide) (cb)) ?_ | refine LOps.valA ?_ | refine LOps.outA ?_ | refine LOps.whenA ?_ | refine LOps.pickA ?_ | refine LOps.storeA ?_)
  refine LWp.loop (fun m T S' => S' = S1 ∧ ∃ (T' : Nat → TV) (j : Nat), j ≤ A.length ∧ m = A.length - j ∧ (∀ (i : Nat) (hi : i < j) (h1 : i < A.length), (B.any fun y => decide (A[i] = y)) = false) ∧
    T = over T' [(5, .one (.sl .sh (tL A))), (6, .one (bv x)), (7, .one (.sl .sh (tL B))), (8, .one (bv y)), (9, .one (iv (j : Nat)))]) A.length ?_ ?_
  · exact ⟨rfl, _, 0, by omega, by omega, fun i hi => by omega, holds.over ⟨rfl, rfl, rfl, rfl, rfl, trivial⟩⟩
  rintro m T S2 ⟨rfl, T', j, hj, rfl, hno, rfl⟩
  repeat (first | refine LOps.nil ?_ | refine andThen_normal ?_ | refine andThen_exit ?_ | refine andThen_ret ?_ | refine inBlock_normal ?_ | refine inBlock_ret ?_ | refine inBlock_here ?_ | refine inBlock_out rfl ?_ | refine LWp.seq ?_ | refine LWp.region ?_ | refine LWp.block ?_ | refine LWp.exit ?_ | refine LWp.ret ?_ | refine LWp.skip ?_ | refine LOps.valA ?_ | refine LOps.outA ?_ | refine LOps.whenA ?_ | refine LOps.pickA ?_ | refine LOps.storeA ?_)
  refine LWp.cond rfl (fun h => ?_) (fun h => ?_)
  · have hlt : j < A.length := by rw [hA] at h; simpa using h
    repeat (first | refine LOps.nil ?_ | refine andThen_normal ?_ | refine andThen_exit ?_ | refine andThen_ret ?_ | refine inBlock_normal ?_ | refine inBlock_ret ?_ | refine inBlock_here ?_ | refine inBlock_out rfl ?_ | refine LWp.seq ?_ | refine LWp.region ?_ | refine LWp.block ?_ | refine LWp.exit ?_ | refine LWp.ret ?_ | refine LWp.skip ?_ | refine LOps.valA ?_ | refine LOps.outA ?_ | refine LOps.whenA ?_ | refine LOps.pickA ?_ | refine LOps.storeA ?_)
    refine LWp.loop (fun m T S' => S' = S2 ∧ ∃ (T' : Nat → TV) (q : Nat), q ≤ B.length ∧ m = B.length - q ∧ (∀ (i : Nat) (hi : i < q) (h1 : i < B.length), decide (A[j] = B[i]) = false) ∧
      T = over T' [(5, .one (.sl .sh (tL A))), (6, .one (bv x)), (7, .one (.sl .sh (tL B))), (8, .one (bv y)), (9, .one (iv (j : Nat))), (10, .one (iv (q : Nat)))]) B.length ?_ ?_
    · exact ⟨rfl, _, 0, by omega, by omega, fun i hi => by omega, holds.over ⟨rfl, rfl, rfl, rfl, rfl, rfl, trivial⟩⟩
    rintro m T S3 ⟨rfl, T', q, hq, rfl, hnq, rfl⟩
    repeat (first | refine LOps.nil ?_ | refine andThen_normal ?_ | refine andThen_exit ?_ | refine andThen_ret ?_ | refine inBlock_normal ?_ | refine inBlock_ret ?_ | refine inBlock_here ?_ | refine inBlock_out rfl ?_ | refine LWp.seq ?_ | refine LWp.region ?_ | refine LWp.block ?_ | refine LWp.exit ?_ | refine LWp.ret ?_ | refine LWp.skip ?_ | refine LOps.valA ?_ | refine LOps.outA ?_ | refine LOps.whenA ?_ | refine LOps.pickA ?_ | refine LOps.storeA ?_)
    refine LWp.cond rfl (fun h => ?_) (fun h => ?_)
    · have hltq : q < B.length := by rw [hB] at h; simpa using h
      repeat (first | refine LOps.nil ?_ | refine andThen_normal ?_ | refine andThen_exit ?_ | refine andThen_ret ?_ | refine inBlock_normal ?_ | refine inBlock_ret ?_ | refine inBlock_here ?_ | refine inBlock_out rfl ?_ | refine LWp.seq ?_ | refine LWp.region ?_ | refine LWp.block ?_ | refine LWp.exit ?_ | refine LWp.ret ?_ | refine LWp.skip ?_)
      refine LWp.drawL [0, 1, 2, 3, 4, 5, 6, 7, 8] (by rw [hP]; rfl) rfl ?_
      repeat (first | refine LRl.nil ?_ | refine LRl.valA ?_ | refine LRl.outA ?_ | refine LRl.whenA ?_ | refine LRl.pickA ?_)
      refine andThen_normal ?_
      repeat (first | refine LOps.nil ?_ | refine andThen_normal ?_ | refine andThen_exit ?_ | refine andThen_ret ?_ | refine inBlock_normal ?_ | refine inBlock_ret ?_ | refine inBlock_here ?_ | refine inBlock_out rfl ?_ | refine LWp.seq ?_ | refine LWp.region ?_ | refine LWp.block ?_ | refine LWp.exit ?_ | refine LWp.ret ?_ | refine LWp.skip ?_ | refine LOps.valA ?_ | refine LOps.outA ?_ | refine LOps.whenA ?_ | refine LOps.pickA ?_ | refine LOps.storeA ?_)
      refine LWp.cond rfl (fun h => ?_) (fun h => ?_)
      · have h : decide (A[j] = B[q]) = true := h
        have e : meets A B = true := any_at hlt (any_at (p := fun y => decide (A[j] = y)) hltq h)
        rw [e, if_pos rfl]
        repeat (first | refine LOps.nil ?_ | refine andThen_normal ?_ | refine andThen_exit ?_ | refine andThen_ret ?_ | refine inBlock_normal ?_ | refine inBlock_ret ?_ | refine inBlock_here ?_ | refine inBlock_out rfl ?_ | refine LWp.seq ?_ | refine LWp.region ?_ | refine LWp.block ?_ | refine LWp.exit ?_ | refine LWp.ret ?_ | refine LWp.skip ?_ | refine LOps.valA ?_ | refine LOps.outA ?_ | refine LOps.whenA ?_ | refine LOps.pickA ?_ | refine LOps.storeA ?_)
        exact ⟨_, LRes.one rfl, rfl, hle⟩
      have h : decide (A[j] = B[q]) = false := h
      repeat (first | refine LOps.nil ?_ | refine andThen_normal ?_ | refine andThen_exit ?_ | refine andThen_ret ?_ | refine inBlock_normal ?_ | refine inBlock_ret ?_ | refine inBlock_here ?_ | refine inBlock_out rfl ?_ | refine LWp.seq ?_ | refine LWp.region ?_ | refine LWp.block ?_ | refine LWp.exit ?_ | refine LWp.ret ?_ | refine LWp.skip ?_ | refine LOps.valA ?_ | refine LOps.outA ?_ | refine LOps.whenA ?_ | refine LOps.pickA ?_ | refine LOps.storeA ?_)
      refine ⟨B.length - (q + 1), by omega, rfl, _, q + 1, by omega, rfl, fun i hi h1 => ?_, holds.over ⟨rfl, rfl, rfl, rfl, rfl, rfl, trivial⟩⟩
      by_cases e : i = q
      · subst e; exact h
      · exact hnq i (by omega) h1
    · have hge : q = B.length := by rw [hB] at h; simp at h; omega
      subst hge
      have h0 : (B.any fun y => decide (A[j] = y)) = false := any_of (fun i hi => hnq i hi hi)
      repeat (first | refine LOps.nil ?_ | refine andThen_normal ?_ | refine andThen_exit ?_ | refine andThen_ret ?_ | refine inBlock_normal ?_ | refine inBlock_ret ?_ | refine inBlock_here ?_ | refine inBlock_out rfl ?_ | refine LWp.seq ?_ | refine LWp.region ?_ | refine LWp.block ?_ | refine LWp.exit ?_ | refine LWp.ret ?_ | refine LWp.skip ?_ | refine LOps.valA ?_ | refine LOps.outA ?_ | refine LOps.whenA ?_ | refine LOps.pickA ?_ | refine LOps.storeA ?_)
      refine ⟨A.length - (j + 1), by omega, rfl, _, j + 1, by omega, rfl, fun i hi h1 => ?_, holds.over ⟨rfl, rfl, rfl, rfl, rfl, trivial⟩⟩
      by_cases e : i = j
      · subst e; exact h0
      · exact hno i (by omega) h1
  · have hge : j = A.length := by rw [hA] at h; simp at h; omega
    subst hge
    have e : meets A B = false := any_of (fun i hi => hno i hi hi)
    rw [e, if_neg (by decide)]
    repeat (first | refine LOps.nil ?_ | refine andThen_normal ?_ | refine andThen_exit ?_ | refine andThen_ret ?_ | refine inBlock_normal ?_ | refine inBlock_ret ?_ | refine inBlock_here ?_ | refine inBlock_out rfl ?_ | refine LWp.seq ?_ | refine LWp.region ?_ | refine LWp.block ?_ | refine LWp.exit ?_ | refine LWp.ret ?_ | refine LWp.skip ?_ | refine LOps.valA ?_ | refine LOps.outA ?_ | refine LOps.whenA ?_ | refine LOps.pickA ?_ | refine LOps.storeA ?_)
    exact ⟨_, LRes.one rfl, rfl, hle⟩
end Go.Proofs.Ytandbjhedkgldaa.LF
end

section
/- LinearMoves: the walk. -/
namespace Go.Proofs.Ytandbjhedkgldaa.LF
open Go.RowKit H
set_option linter.unusedVariables false

theorem LVal.remT {G : Ctx} {o : Oper} {T : Nat → TV} {S : LS} {t u : TypeId} {x y : Operand} {k : IntKind} {a b : Int} (ho : o.op = .binOp .rem t x y u)
    (hx : lev T x = .one (.v (.int k a))) (hy : lev T y = .one (.v (.int k b))) (h : b ≠ 0) : LVal G o T S (.one (.v (.int k (a.tmod b)))) :=
  LVal.binOp (D := []) (fun _ h => by cases h) ho hx hy (by simp [lbin, lint]; omega)
theorem evL_len (e : Ev) : (evL e).length = 13 := rfl
theorem rdEv {l : List Ev} {rest : List LV} {j : Nat} (hj : j < l.length) : readT ti40 ((cellsR evL l ++ rest).drop (0 + j * 13)) = some (.agg (evL l[j])) := by
  rw [Nat.zero_add, cellsR_at evL_len l rest hj]; rfl
theorem setEv {l : List Ev} {rest : List LV} {j : Nat} (hj : j < l.length) (x : Ev) : splice (cellsR evL l ++ rest) (0 + j * 13) (evL x) = cellsR evL (l.set j x) ++ rest := by
  rw [Nat.zero_add]
  exact set_cells (A := []) (B := []) (y := evL l[j]) (y' := evL x) evL_len hj (by simp) (by simp) rfl (by simp)
theorem LDo.copyEvs {G : Ctx} (hD : TabOK G.P D) {o : Oper} {T : Nat → TV} {S2 : LS} {ba : Nat} {row : List Ev} {s x : Operand} (hba : S2.fresh ba) (ho : o.op = .call { callee := .builtin .append, args := #[s, x], argTypes := #[23, 23] })
    (hs : lev T s = .one (rsl ba 0 0 0)) (hx : lev T x = .one (.sl .sh (row.map evL))) (hl : row.length ≤ 1000) (hpos : 0 < row.length) :
    LDo G o T (S2.newBox ba []) (fun r S' => ∃ b c rest, r = .one (rsl b 0 row.length c) ∧ RowIn evL 13 S' b row c rest) := by
  have hrow1 : ∀ c ∈ row.map evL, c.length = 13 := fun c hc => by obtain ⟨x, _, rfl⟩ := List.mem_map.1 hc; rfl
  have hsrc := SrcL.sl (S := S2.newBox ba []) (z := 13) .sh (row.map evL) hrow1
  rw [List.length_map] at hsrc
  refine (LDo.appendGrowR (n := 0) (c := 0) (m := row.length) (l := []) hD ho hs hx rfl rfl rfl rfl rfl rfl (.inl ⟨_, rfl⟩) (.all (box_new _ _ _) rfl) hsrc (by omega) (by omega)).mono' fun r S' ⟨b', c', hb', hc', e1, e2⟩ => ?_
  subst e2
  rw [Nat.zero_add] at hc' e1
  refine ⟨b', c', zrow ti40 (c' - row.length), e1, ⟨?_, zrow_length _ _, hc'⟩⟩
  rw [box_new, Nat.zero_add]; rfl
theorem part_of (M : List Ev) (rest : List LV) {c : Nat} (h : M.length ≤ c) : Part (cellsR evL M ++ rest) 0 c 13 (M.map evL) := by
  refine ⟨fun e he => ?_, ?_, ?_, by rw [List.length_map]; exact h⟩
  · obtain ⟨x, _, rfl⟩ := List.mem_map.1 he
    rfl
  · rw [List.drop_zero, List.length_map, ← cellsR_length evL_len, List.take_left]; rfl
  · rw [List.length_map, ← cellsR_length evL_len, List.length_append]; omega
theorem swap_row {evs : List Ev} {i : Nat} (hi : i + 1 < evs.length) (hi1 : i < evs.length) :
    evs = evs.take i ++ evs[i] :: evs[i + 1] :: evs.drop (i + 2) ∧ (evs.set i evs[i + 1]).set (i + 1) evs[i] = evs.take i ++ evs[i + 1] :: evs[i] :: evs.drop (i + 2) := by
  have e : evs = evs.take i ++ evs[i] :: evs[i + 1] :: evs.drop (i + 2) := by
    rw [← List.drop_eq_getElem_cons hi, ← List.drop_eq_getElem_cons hi1, List.take_append_drop]
  refine ⟨e, ?_⟩
  have hl : (evs.take i).length = i := by rw [List.length_take]; omega
  have key : ∀ x y : Ev, (evs.set i x).set (i + 1) y = evs.take i ++ x :: y :: evs.drop (i + 2) := fun x y => by
    conv => lhs; rw [e]
    rw [List.set_append_right _ _ (by omega), hl, Nat.sub_self, List.set_cons_zero, List.set_append_right _ _ (by omega), hl, show i + 1 - i = 1 by omega, List.set_cons_succ, List.set_cons_zero]
  exact key _ _
theorem apart_keys {a b : OpV} (h : apartS a b = true) : a.kind ≠ 5 ∧ b.kind ≠ 5 ∧ ∀ k, k ∈ keysO a → k ∉ keysO b := by
  unfold apartS at h
  split at h
  · cases h
  · rename_i hm
    obtain ⟨h1, h2⟩ := Bool.and_eq_true_iff.1 h
    have n1 : a.kind ≠ 5 := fun e => by rw [namesOk, e] at h1; exact absurd h1 (by decide)
    have n2 : b.kind ≠ 5 := fun e => by rw [namesOk, e] at h2; exact absurd h2 (by decide)
    refine ⟨n1, n2, fun k ka kb => hm ?_⟩
    unfold meets
    rw [List.any_eq_true]
    refine ⟨k, by rw [namesK, if_neg n1]; exact ka, ?_⟩
    rw [List.any_eq_true]
    exact ⟨k, by rw [namesK, if_neg n2]; exact kb, decide_eq_true rfl⟩
theorem moves_same {l : List Pr} {evs : List Ev} {i : Nat} (hi : i + 1 < evs.length) (hi1 : i < evs.length) (h0 : (checkS (fun _ => noKn) evs 0).2 = 0) (k1 : evs[i].kind = 2) (k2 : evs[i + 1].kind = 2)
    (hap : apartS (opOf evs evs[i].id) (opOf evs evs[i + 1].id) = true) :
    (checkL l ((evs.set i evs[i + 1]).set (i + 1) evs[i])).2 = (checkL l evs).2 ∧ afterL l ((evs.set i evs[i + 1]).set (i + 1) evs[i]) = afterL l evs := by
  obtain ⟨e1, e2⟩ := swap_row hi hi1
  obtain ⟨n1, n2, hk⟩ := apart_keys hap
  rw [e2]
  generalize evs[i] = a at *
  generalize evs[i + 1] = b at *
  generalize evs.take i = pre at *
  generalize evs.drop (i + 2) = post at *
  subst e1
  exact move_same h0 k1 k2 hk n1 n2
attribute [local irreducible] andThen inBlock LWp LOps LCalls

set_option maxHeartbeats 8000000 in
theorem moves8_L {G : Ctx} (hP : G.P = Try.prog) (l : List Pr) (evs : List Ev) (at_ : Int) (S : LS) : LCalls G 6 [.one (.sl .sh (l.map prL)), .one (.sl .sh (evs.map evL)), .one (iv at_)] (fun r _ => r = .one (bv true)) S := by
  have hD : TabOK G.P D := by rw [hP]; exact hD0
  have cw := wakes8_F hP
  have hme : (evs.map evL).length = evs.length := List.length_map ..
  refine LCalls.enter (fn := Try.f6) (by rw [hP]; exact Try.func6) rfl rfl ?_
  repeat (first | refine LOps.nil ?_ | refine andThen_normal ?_ | refine andThen_exit ?_ | refine andThen_ret ?_ | refine inBlock_normal ?_ | refine inBlock_ret ?_ | refine inBlock_here ?_ | refine inBlock_out rfl ?_ | refine LWp.seq ?_ | refine LWp.region ?_ | refine LWp.block ?_ | refine LWp.exit ?_ | refine LWp.ret ?_ | refine LWp.skip ?_ | refine LOps.val (LVal.call rfl rfl (by rw [hP]; exact Try.func9) rfl (by decide) (great8_F hP l evs)) rfl rfl rfl ?_ | refine LOps.whenC (LVal.call rfl rfl (by rw [hP]; exact Try.func9) rfl (by decide) (great8_F hP l evs)) ?_ | refine LOps.valA ?_ | refine LOps.outA ?_ | refine LOps.whenA ?_ | refine LOps.pickA ?_ | refine LOps.storeA ?_)
  refine LWp.cond rfl (fun h => ?_) (fun h => ?_)
  · repeat (first | refine LOps.nil ?_ | refine andThen_normal ?_ | refine andThen_exit ?_ | refine andThen_ret ?_ | refine inBlock_normal ?_ | refine inBlock_ret ?_ | refine inBlock_here ?_ | refine inBlock_out rfl ?_ | refine LWp.seq ?_ | refine LWp.region ?_ | refine LWp.block ?_ | refine LWp.exit ?_ | refine LWp.ret ?_ | refine LWp.skip ?_ | refine LOps.val (LVal.call rfl rfl (by rw [hP]; exact Try.func10) rfl (by decide) (cw)) rfl rfl rfl ?_ | refine LOps.whenC (LVal.call rfl rfl (by rw [hP]; exact Try.func10) rfl (by decide) (cw)) ?_ | refine LOps.valA ?_ | refine LOps.outA ?_ | refine LOps.whenA ?_ | refine LOps.pickA ?_ | refine LOps.storeA ?_)
    exact ⟨_, LRes.one rfl, rfl⟩
  have hlen : 2 ≤ evs.length := by
    have := of_decide_eq_false (Bool.or_eq_false_iff.1 h).2
    rw [hme] at this; omega
  have h := (Bool.or_eq_false_iff.1 h).1
  have ok := ok8_of h
  have hne := ok.ne
  have hnl := ok.nl
  repeat (first | refine LOps.valH (LVal.remT rfl rfl rfl (by rw [hme]; omega)) ?_ | refine LOps.nil ?_ | refine andThen_normal ?_ | refine andThen_exit ?_ | refine andThen_ret ?_ | refine inBlock_normal ?_ | refine inBlock_ret ?_ | refine inBlock_here ?_ | refine inBlock_out rfl ?_ | refine LWp.seq ?_ | refine LWp.region ?_ | refine LWp.block ?_ | refine LWp.exit ?_ | refine LWp.ret ?_ | refine LWp.skip ?_ | refine LOps.valA ?_ | refine LOps.outA ?_ | refine LOps.whenA ?_ | refine LOps.pickA ?_ | refine LOps.storeA ?_)
  rw [hme]
  have hr2 : at_.tmod ((evs.length : Int) - 1) < (evs.length : Int) - 1 := Int.tmod_lt_of_pos _ (by omega)
  have hr1 : -((evs.length : Int) - 1) < at_.tmod ((evs.length : Int) - 1) := Int.lt_tmod_of_pos _ (by omega)
  generalize at_.tmod ((evs.length : Int) - 1) = r at *
  refine LWp.join (fun T' S' => S' = S ∧ ∃ (T'' : Nat → TV) (i : Nat), i + 1 < evs.length ∧ T' = over T'' [(0, .one (.sl .sh (l.map prL))), (1, .one (.sl .sh (evs.map evL))), (7, .one (iv (i : Nat)))]) ?_ ?_
  · refine LWp.cond rfl (fun h => ?_) (fun h => ?_)
    · have h : r < 0 := of_decide_eq_true h
      obtain ⟨i, hi⟩ : ∃ i : Nat, r + (evs.length : Int) - 1 = (i : Int) := ⟨(r + (evs.length : Int) - 1).toNat, by omega⟩
      repeat (first | refine LOps.nil ?_ | refine andThen_normal ?_ | refine andThen_exit ?_ | refine andThen_ret ?_ | refine inBlock_normal ?_ | refine inBlock_ret ?_ | refine inBlock_here ?_ | refine inBlock_out rfl ?_ | refine LWp.seq ?_ | refine LWp.region ?_ | refine LWp.block ?_ | refine LWp.exit ?_ | refine LWp.ret ?_ | refine LWp.skip ?_ | refine LOps.valA ?_ | refine LOps.outA ?_ | refine LOps.whenA ?_ | refine LOps.pickA ?_ | refine LOps.storeA ?_)
      exact ⟨rfl, _, i, by omega, holds.over ⟨rfl, rfl, by rw [← hi]; exact congrArg (fun z : Nat => TV.one (iv (r + (z : Int) - 1))) hme, trivial⟩⟩
    · have h : ¬ r < 0 := of_decide_eq_false h
      obtain ⟨i, rfl⟩ : ∃ i : Nat, r = (i : Int) := ⟨r.toNat, by omega⟩
      repeat (first | refine LOps.nil ?_ | refine andThen_normal ?_ | refine andThen_exit ?_ | refine andThen_ret ?_ | refine inBlock_normal ?_ | refine inBlock_ret ?_ | refine inBlock_here ?_ | refine inBlock_out rfl ?_ | refine LWp.seq ?_ | refine LWp.region ?_ | refine LWp.block ?_ | refine LWp.exit ?_ | refine LWp.ret ?_ | refine LWp.skip ?_ | refine LOps.valA ?_ | refine LOps.outA ?_ | refine LOps.whenA ?_ | refine LOps.pickA ?_ | refine LOps.storeA ?_)
      exact ⟨rfl, _, i, by omega, holds.over ⟨rfl, rfl, rfl, trivial⟩⟩
  rintro _ S2 ⟨rfl, T2, i, hi, rfl⟩
  repeat (first | refine LOps.nil ?_ | refine andThen_normal ?_ | refine andThen_exit ?_ | refine andThen_ret ?_ | refine inBlock_normal ?_ | refine inBlock_ret ?_ | refine inBlock_here ?_ | refine inBlock_out rfl ?_ | refine LWp.seq ?_ | refine LWp.region ?_ | refine LWp.block ?_ | refine LWp.exit ?_ | refine LWp.ret ?_ | refine LWp.skip ?_ | refine LOps.val (LVal.call rfl rfl (by rw [hP]; exact Try.func21) rfl (by decide) (H.check_F hP evs (by omega))) rfl rfl rfl ?_ | refine LOps.whenC (LVal.call rfl rfl (by rw [hP]; exact Try.func21) rfl (by decide) (H.check_F hP evs (by omega))) ?_ | refine LOps.valA ?_ | refine LOps.outA ?_ | refine LOps.whenA ?_ | refine LOps.pickA ?_ | refine LOps.storeA ?_)
  refine LWp.cond rfl (fun h => ?_) (fun h => ?_)
  · repeat (first | refine LOps.nil ?_ | refine andThen_normal ?_ | refine andThen_exit ?_ | refine andThen_ret ?_ | refine inBlock_normal ?_ | refine inBlock_ret ?_ | refine inBlock_here ?_ | refine inBlock_out rfl ?_ | refine LWp.seq ?_ | refine LWp.region ?_ | refine LWp.block ?_ | refine LWp.exit ?_ | refine LWp.ret ?_ | refine LWp.skip ?_ | refine LOps.val (LVal.call rfl rfl (by rw [hP]; exact Try.func10) rfl (by decide) (cw)) rfl rfl rfl ?_ | refine LOps.whenC (LVal.call rfl rfl (by rw [hP]; exact Try.func10) rfl (by decide) (cw)) ?_ | refine LOps.valA ?_ | refine LOps.outA ?_ | refine LOps.whenA ?_ | refine LOps.pickA ?_ | refine LOps.storeA ?_)
    exact ⟨_, LRes.one rfl, rfl⟩
  obtain ⟨h1, hk2⟩ := Bool.or_eq_false_iff.1 h
  obtain ⟨h1, hk1⟩ := Bool.or_eq_false_iff.1 h1
  have h0 : (checkS (fun _ => noKn) evs 0).2 = 0 := by simpa using h1
  have k1 : evs[i].kind = 2 := by simpa using hk1
  have k2 : evs[i + 1].kind = 2 := by simpa using hk2
  repeat (first | refine LOps.nil ?_ | refine andThen_normal ?_ | refine andThen_exit ?_ | refine andThen_ret ?_ | refine inBlock_normal ?_ | refine inBlock_ret ?_ | refine inBlock_here ?_ | refine inBlock_out rfl ?_ | refine LWp.seq ?_ | refine LWp.region ?_ | refine LWp.block ?_ | refine LWp.exit ?_ | refine LWp.ret ?_ | refine LWp.skip ?_ | refine LOps.val (LVal.call rfl rfl (by rw [hP]; exact Try.func22) rfl (by decide) (state_F hP evs (by omega) ok.ws evs[i].id)) rfl rfl rfl ?_ | refine LOps.whenC (LVal.call rfl rfl (by rw [hP]; exact Try.func22) rfl (by decide) (state_F hP evs (by omega) ok.ws evs[i].id)) ?_ | refine LOps.valA ?_ | refine LOps.outA ?_ | refine LOps.whenA ?_ | refine LOps.pickA ?_ | refine LOps.storeA ?_)
  refine LOps.do (LDo.alloc hD rfl rfl rfl) rfl rfl rfl ?_
  rintro _ _ ⟨b10, hb10, rfl, rfl⟩
  refine LOps.do (LDo.alloc hD rfl rfl rfl) rfl rfl rfl ?_
  rintro _ _ ⟨b11, hb11, rfl, rfl⟩
  have n1011 : b10 ≠ b11 := fresh_ne hb11 (box_new _ _ _)
  have n1110 := n1011.symm
  repeat (first | refine LOps.nil ?_ | refine andThen_normal ?_ | refine andThen_exit ?_ | refine andThen_ret ?_ | refine inBlock_normal ?_ | refine inBlock_ret ?_ | refine inBlock_here ?_ | refine inBlock_out rfl ?_ | refine LWp.seq ?_ | refine LWp.region ?_ | refine LWp.block ?_ | refine LWp.exit ?_ | refine LWp.ret ?_ | refine LWp.skip ?_ | refine LOps.valA ?_ | refine LOps.outA ?_ | refine LOps.whenA ?_ | refine LOps.pickA ?_ | refine LOps.storeA ?_)
  refine LOps.gen (fun S3 => S3.box b10 = some (opL (opOf evs evs[i].id))) ((box_set_ne _ _ n1011).trans (box_set _ _ _)) ?_
  clear hb10 hb11 n1011 n1110
  rintro S3 q10
  repeat (first | refine LOps.nil ?_ | refine andThen_normal ?_ | refine andThen_exit ?_ | refine andThen_ret ?_ | refine inBlock_normal ?_ | refine inBlock_ret ?_ | refine inBlock_here ?_ | refine inBlock_out rfl ?_ | refine LWp.seq ?_ | refine LWp.region ?_ | refine LWp.block ?_ | refine LWp.exit ?_ | refine LWp.ret ?_ | refine LWp.skip ?_ | refine LOps.val (LVal.call rfl rfl (by rw [hP]; exact Try.func22) rfl (by decide) (state_F hP evs (by omega) ok.ws evs[i + 1].id)) rfl rfl rfl ?_ | refine LOps.whenC (LVal.call rfl rfl (by rw [hP]; exact Try.func22) rfl (by decide) (state_F hP evs (by omega) ok.ws evs[i + 1].id)) ?_ | refine LOps.valA ?_ | refine LOps.outA ?_ | refine LOps.whenA ?_ | refine LOps.pickA ?_ | refine LOps.storeA ?_)
  refine LOps.do (LDo.alloc hD rfl rfl rfl) rfl rfl rfl ?_
  rintro _ _ ⟨b13, hb13, rfl, rfl⟩
  have n13 := fresh_ne hb13 q10
  refine LOps.do (LDo.alloc hD rfl rfl rfl) rfl rfl rfl ?_
  rintro _ _ ⟨b14, hb14, rfl, rfl⟩
  have n14 := fresh_ne hb14 ((box_new_ne _ (lzero ti34) n13).trans q10)
  have n1314 : b13 ≠ b14 := fresh_ne hb14 (box_new _ _ _)
  have n1413 := n1314.symm
  repeat (first | refine LOps.nil ?_ | refine andThen_normal ?_ | refine andThen_exit ?_ | refine andThen_ret ?_ | refine inBlock_normal ?_ | refine inBlock_ret ?_ | refine inBlock_here ?_ | refine inBlock_out rfl ?_ | refine LWp.seq ?_ | refine LWp.region ?_ | refine LWp.block ?_ | refine LWp.exit ?_ | refine LWp.ret ?_ | refine LWp.skip ?_ | refine LOps.val (LVal.call rfl rfl (by rw [hP]; exact Try.func23) rfl (by decide) (apart_F hP (opOf evs evs[i].id) (opOf evs evs[i + 1].id) (by have := (fineO_opOf ok.os evs[i].id).n; omega) (by have := (fineO_opOf ok.os evs[i + 1].id).n; omega))) rfl rfl rfl ?_ | refine LOps.whenC (LVal.call rfl rfl (by rw [hP]; exact Try.func23) rfl (by decide) (apart_F hP (opOf evs evs[i].id) (opOf evs evs[i + 1].id) (by have := (fineO_opOf ok.os evs[i].id).n; omega) (by have := (fineO_opOf ok.os evs[i + 1].id).n; omega))) ?_ | refine LOps.valA ?_ | refine LOps.outA ?_ | refine LOps.whenA ?_ | refine LOps.pickA ?_ | refine LOps.storeA ?_)
  refine LWp.cond rfl (fun h => ?_) (fun h => ?_)
  · repeat (first | refine LOps.nil ?_ | refine andThen_normal ?_ | refine andThen_exit ?_ | refine andThen_ret ?_ | refine inBlock_normal ?_ | refine inBlock_ret ?_ | refine inBlock_here ?_ | refine inBlock_out rfl ?_ | refine LWp.seq ?_ | refine LWp.region ?_ | refine LWp.block ?_ | refine LWp.exit ?_ | refine LWp.ret ?_ | refine LWp.skip ?_ | refine LOps.val (LVal.call rfl rfl (by rw [hP]; exact Try.func10) rfl (by decide) (cw)) rfl rfl rfl ?_ | refine LOps.whenC (LVal.call rfl rfl (by rw [hP]; exact Try.func10) rfl (by decide) (cw)) ?_ | refine LOps.valA ?_ | refine LOps.outA ?_ | refine LOps.whenA ?_ | refine LOps.pickA ?_ | refine LOps.storeA ?_)
    exact ⟨_, LRes.one rfl, rfl⟩
  have hap : apartS (opOf evs evs[i].id) (opOf evs evs[i + 1].id) = true := by
    have h : (!apartS (opOf evs evs[i].id) (opOf evs evs[i + 1].id)) = false := h
    simpa using h
  repeat (first | (refine LOps.do (LDo.buildSliceR (n := 0) (ps := []) (lp := []) (l := []) hD rfl rfl rfl rfl rfl rfl rfl rfl rfl rfl rfl) rfl rfl rfl ?_; rintro _ _ ⟨ba, hba, rfl, rfl⟩) | refine LOps.nil ?_ | refine andThen_normal ?_ | refine andThen_exit ?_ | refine andThen_ret ?_ | refine inBlock_normal ?_ | refine inBlock_ret ?_ | refine inBlock_here ?_ | refine inBlock_out rfl ?_ | refine LWp.seq ?_ | refine LWp.region ?_ | refine LWp.block ?_ | refine LWp.exit ?_ | refine LWp.ret ?_ | refine LWp.skip ?_ | refine LOps.valA ?_ | refine LOps.outA ?_ | refine LOps.whenA ?_ | refine LOps.pickA ?_ | refine LOps.storeA ?_)
  refine LOps.do (LDo.copyEvs hD hba rfl rfl rfl (by omega) (by omega)) rfl rfl rfl ?_
  rintro _ S6 ⟨rb, rc, rest, rfl, hrow⟩
  repeat (first | refine LOps.nil ?_ | refine andThen_normal ?_ | refine andThen_exit ?_ | refine andThen_ret ?_ | refine inBlock_normal ?_ | refine inBlock_ret ?_ | refine inBlock_here ?_ | refine inBlock_out rfl ?_ | refine LWp.seq ?_ | refine LWp.region ?_ | refine LWp.block ?_ | refine LWp.exit ?_ | refine LWp.ret ?_ | refine LWp.skip ?_ | refine LOps.valA ?_ | refine LOps.outA ?_ | refine LOps.whenA ?_ | refine LOps.pickA ?_ | refine LOps.storeA ?_)
  have hbx := hrow.box
  have hrl := hrow.len evL_len
  have hrc := hrow.cap
  have hi1 : i < evs.length := by omega
  refine LWp.drawF (fun q _ => ¬ (q = 9 ∨ q = 13)) [0, 1, 2, 3, 4, 5, 6, 7, 8, 9, 10, 11, 12, 13, 14, 15, 16, 17] (by rw [hP]; rfl) rfl ?_
  repeat (first | refine LRl.val (r := .one (.v (.pointer (some ⟨rb, 0 + (i + 1) * 13, none⟩)))) (fun _ _ => LVal.to (LVal.indexR (m := ((i : Nat) : Int) + 1) hD rfl rfl rfl rfl rfl rfl (by omega) (by omega)) rfl) rfl rfl rfl ?_ | refine LRl.val (r := .one (.v (.pointer (some ⟨rb, 0 + i * 13, none⟩)))) (fun _ _ => LVal.to (LVal.indexR (m := ((i : Nat) : Int)) hD rfl rfl rfl rfl rfl rfl (by omega) (by omega)) rfl) rfl rfl rfl ?_ | refine LRl.val (fun _ hS => LVal.load hD rfl rfl (hS.box _ _ hbx (fun h => h (by decide))) rfl (rdEv hi)) rfl rfl rfl ?_ | refine LRl.val (fun _ hS => LVal.load hD rfl rfl (hS.box _ _ hbx (fun h => h (by decide))) rfl (rdEv hi1)) rfl rfl rfl ?_ | refine LRl.nil ?_ | refine LRl.valA ?_ | refine LRl.outA ?_ | refine LRl.whenA ?_ | refine LRl.pickA ?_)
  refine LRl.actA0 (LDo.store hD rfl rfl hbx rfl rfl rfl (by rw [Nat.ble_eq]; show 0 + i * 13 + 13 ≤ _; rw [hrl]; omega)).toAct rfl rfl rfl (by
    rintro _ _ ⟨rfl, rfl⟩ q _
    by_cases h9 : q = 9
    · subst h9; exact .inr rfl
    by_cases h13 : q = 13
    · subst h13; exact .inr rfl
    exact .inl ⟨fun b cs _ hn => absurd (fun h => h.elim h9 h13) hn, fun _ _ h => h⟩) ?_
  rintro _ S9 ⟨rfl, hS9⟩
  replace hS9 := hS9.trans (congrArg (LS.setBox _ rb) (setEv hi1 evs[i + 1]))
  subst hS9
  have hb2 := box_set S6 rb (cellsR evL (evs.set i evs[i + 1]) ++ rest)
  have hl2 : (evs.set i evs[i + 1]).length = evs.length := List.length_set ..
  have hcl : (cellsR evL (evs.set i evs[i + 1]) ++ rest).length = rc * 13 := by rw [List.length_append, cellsR_length evL_len, hl2, ← cellsR_length evL_len, ← List.length_append]; exact hrl
  repeat (first | refine LRl.val (r := .one (.v (.pointer (some ⟨rb, 0 + (i + 1) * 13, none⟩)))) (fun _ _ => LVal.to (LVal.indexR (m := ((i : Nat) : Int) + 1) hD rfl rfl rfl rfl rfl rfl (by omega) (by omega)) rfl) rfl rfl rfl ?_ | refine LRl.nil ?_ | refine LRl.valA ?_ | refine LRl.outA ?_ | refine LRl.whenA ?_ | refine LRl.pickA ?_)
  refine LRl.actA0 (LDo.store hD rfl rfl hb2 rfl rfl rfl (by rw [Nat.ble_eq]; show 0 + (i + 1) * 13 + 13 ≤ _; rw [hcl]; omega)).toAct rfl rfl rfl (by
    rintro _ _ ⟨rfl, rfl⟩ q _
    by_cases h9 : q = 9
    · subst h9; exact .inr rfl
    by_cases h13 : q = 13
    · subst h13; exact .inr rfl
    exact .inl ⟨fun b cs _ hn => absurd (fun h => h.elim h9 h13) hn, fun _ _ h => h⟩) ?_
  rintro _ S9 ⟨rfl, hS9⟩
  replace hS9 := hS9.trans (congrArg (LS.setBox _ rb) (setEv (l := evs.set i evs[i + 1]) (by rw [hl2]; exact hi) evs[i]))
  subst hS9
  repeat (first | refine LRl.nil ?_ | refine LRl.valA ?_ | refine LRl.outA ?_ | refine LRl.whenA ?_ | refine LRl.pickA ?_)
  refine andThen_normal ?_
  obtain ⟨x1, x2⟩ := moves_same (l := l) hi hi1 h0 k1 k2 hap
  have hM : ((evs.set i evs[i + 1]).set (i + 1) evs[i]).length = evs.length := by rw [List.length_set, List.length_set]
  have hb3 := box_set (S6.setBox rb (cellsR evL (evs.set i evs[i + 1]) ++ rest)) rb (cellsR evL ((evs.set i evs[i + 1]).set (i + 1) evs[i]) ++ rest)
  generalize (S6.setBox rb (cellsR evL (evs.set i evs[i + 1]) ++ rest)).setBox rb (cellsR evL ((evs.set i evs[i + 1]).set (i + 1) evs[i]) ++ rest) = S7 at *
  generalize (evs.set i evs[i + 1]).set (i + 1) evs[i] = M at *
  refine LWp.freeze 16 (es := M.map evL) (z := 13) (by rw [List.length_map, hM]; rfl) hb3 (part_of M rest (by omega)) ?_
  generalize S7.delBox rb = S8 at *
  have d1 := LF.check_F hP l (by omega) evs (by omega)
  have d2 := LF.check_F hP l (by omega) M (by omega)
  have d3 := after_F hP l (by omega) evs (by omega)
  have d4 := after_F hP l (by omega) M (by omega)
  rw [x1] at d2
  rw [x2] at d4
  have hal := afterL_len l evs
  have d5 := sameP_F hP (afterL l evs) (afterL l evs) (by omega)
  rw [sameP_self] at d5
  clear x1 x2 hb2 hb3 hcl hrl hbx hrow hap
  generalize checkL l M = K2 at *
  generalize checkL l evs = K at *
  generalize afterL l evs = A at *
  repeat (first | refine LOps.nil ?_ | refine andThen_normal ?_ | refine andThen_exit ?_ | refine andThen_ret ?_ | refine inBlock_normal ?_ | refine inBlock_ret ?_ | refine inBlock_here ?_ | refine inBlock_out rfl ?_ | refine LWp.seq ?_ | refine LWp.region ?_ | refine LWp.block ?_ | refine LWp.exit ?_ | refine LWp.ret ?_ | refine LWp.skip ?_ | refine LOps.val (LVal.call rfl rfl (by rw [hP]; exact Try.func11) rfl (by decide) (d1)) rfl rfl rfl ?_ | refine LOps.val (LVal.call rfl rfl (by rw [hP]; exact Try.func11) rfl (by decide) (d2)) rfl rfl rfl ?_ | refine LOps.val (LVal.call rfl rfl (by rw [hP]; exact Try.func17) rfl (by decide) (d3)) rfl rfl rfl ?_ | refine LOps.val (LVal.call rfl rfl (by rw [hP]; exact Try.func17) rfl (by decide) (d4)) rfl rfl rfl ?_ | refine LOps.val (LVal.call rfl rfl (by rw [hP]; exact Try.func16) rfl (by decide) (d5)) rfl rfl rfl ?_ | refine LOps.val (LVal.call rfl rfl (by rw [hP]; exact Try.func10) rfl (by decide) (cw)) rfl rfl rfl ?_ | refine LOps.whenC (LVal.call rfl rfl (by rw [hP]; exact Try.func11) rfl (by decide) (d1)) ?_ | refine LOps.whenC (LVal.call rfl rfl (by rw [hP]; exact Try.func11) rfl (by decide) (d2)) ?_ | refine LOps.whenC (LVal.call rfl rfl (by rw [hP]; exact Try.func17) rfl (by decide) (d3)) ?_ | refine LOps.whenC (LVal.call rfl rfl (by rw [hP]; exact Try.func17) rfl (by decide) (d4)) ?_ | refine LOps.whenC (LVal.call rfl rfl (by rw [hP]; exact Try.func16) rfl (by decide) (d5)) ?_ | refine LOps.whenC (LVal.call rfl rfl (by rw [hP]; exact Try.func10) rfl (by decide) (cw)) ?_ | refine LOps.valA ?_ | refine LOps.outA ?_ | refine LOps.whenA ?_ | refine LOps.pickA ?_ | refine LOps.storeA ?_)
  refine ⟨_, LRes.one rfl, ?_⟩
  show TV.one (bv (decide (K.2 = K.2) && true && true)) = _
  rw [decide_eq_true rfl]; rfl
end Go.Proofs.Ytandbjhedkgldaa.LF

namespace Go.Proofs.Ytandbjhedkgldaa
open Go.RowKit LF
theorem linearMoves_walk (W : World) (v0 : Value) (l0 : List LV) (y0 : Typed LF.D 22 l0) (g0 : RepT (G0 Try.prog W) W (allCells W) (argTV ti22 l0) v0) (v1 : Value) (l1 : List LV) (y1 : Typed LF.D 23 l1) (g1 : RepT (G0 Try.prog W) W (allCells W) (argTV ti23 l1) v1) (v2 : Value) (l2 : List LV) (y2 : Typed LF.D 3 l2) (g2 : RepT (G0 Try.prog W) W (allCells W) (argTV ti3 l2) v2) :
    Calls Try.prog 6 #[v0, v1, v2] W fun e W' => e = .returned (.bool true) ∧ Below W.heap.size W W' := by
  obtain ⟨l, rfl⟩ := LF.typed_prs y0
  obtain ⟨evs, rfl⟩ := H.typed_evs y1
  obtain ⟨n, rfl, hn⟩ := LF.typed_int rfl rfl y2
  exact law_calls (fun G S h => moves8_L h l evs n S) (.cons (vs := [v1, v2]) g0 (.cons (vs := [v2]) g1 (.cons (vs := []) g2 .nil)))
end Go.Proofs.Ytandbjhedkgldaa
end
