/- The histories' data; what the document's words (marshallingref06) answer: bare, count, Answer. -/
import Derived.Test.YtmdfjojohfhcgaaLFq
import Derived.Test.YtmdfjojohfhcgaaLFtab
set_option linter.unusedVariables false
set_option linter.unusedSimpArgs false
namespace Go.Proofs.Ytmdfjojohfhcgaa.LF
open Go.RowKit
abbrev iv (x : Int) : LV := .v (.int .i64 x)
abbrev sv (x : ByteArray) : LV := .v (.string x)
abbrev bv (x : Bool) : LV := .v (.bool x)
abbrev uv (x : Int) : LV := .v (.int .u8 x)

structure Ans where
  code : Int
  found : Bool
  key : ByteArray
  val : ByteArray
deriving DecidableEq
structure Wr where
  key : ByteArray
  val : ByteArray
  gone : Bool
deriving DecidableEq
structure OpV where
  kind : Int
  key : ByteArray
  val : ByteArray
  old : ByteArray
  had : Bool
  after : Bool
  writes : List Wr
deriving DecidableEq
structure Ev where
  kind : Int
  id : Int
  op : OpV
  ans : Ans
deriving DecidableEq

abbrev noBytes : ByteArray := { data := #[] }
def noAns : Ans := ⟨0, false, noBytes, noBytes⟩
def noOp : OpV := ⟨0, noBytes, noBytes, noBytes, false, false, []⟩

def wrL (x : Wr) : List LV := [sv x.key, sv x.val, bv x.gone]
def ansL (a : Ans) : List LV := [iv a.code, bv a.found, sv a.key, sv a.val]
def opL (o : OpV) : List LV := [uv o.kind, sv o.key, sv o.val, sv o.old, bv o.had, bv o.after, .sl .sh (o.writes.map wrL)]
def evL (e : Ev) : List LV := [uv e.kind, iv e.id, uv e.op.kind, sv e.op.key, sv e.op.val, sv e.op.old, bv e.op.had, bv e.op.after, .sl .sh (e.op.writes.map wrL), iv e.ans.code, bv e.ans.found, sv e.ans.key, sv e.ans.val]

def bareS (o : OpV) : Bool := decide (o.kind = 0) && decide (o.key = noBytes) && decide (o.val = noBytes) && decide (o.old = noBytes) && !o.had && !o.after && decide (o.writes = [])

theorem bare_form (o : OpV) : (((((((o.kind == 0) && decide (o.key = noBytes)) && decide (o.val = noBytes)) && decide (o.old = noBytes)) && !o.had) && !o.after) && (((o.writes.map wrL).length : Int) == 0)) = bareS o := by
  have e1 : (o.kind == 0) = decide (o.kind = 0) := by by_cases h : o.kind = 0 <;> simp [h]
  have e2 : (((o.writes.map wrL).length : Int) == 0) = decide (o.writes = []) := by cases o.writes <;> simp; omega
  rw [e1, e2]; rfl

set_option maxHeartbeats 1000000 in
theorem bare_F {G : Ctx} (hP : G.P = Try.prog) (o : OpV) : LFun G 31 [.agg (opL o)] (.one (bv (bareS o))) := LFun.of fun S => by
  have hD : TabOK G.P D := by rw [hP]; exact hD0
  refine LCalls.enter (fn := Try.f31) (by rw [hP]; exact Try.func31) rfl rfl ?_
  repeat (first | refine LOps.nil ?_ | refine andThen_normal ?_ | refine andThen_exit ?_ | refine andThen_ret ?_ | refine inBlock_normal ?_ | refine inBlock_ret ?_ | refine inBlock_here ?_ | refine inBlock_out rfl ?_ | refine LWp.seq ?_ | refine LWp.region ?_ | refine LWp.block ?_ | refine LWp.exit ?_ | refine LWp.ret ?_ | refine LWp.skip ?_ | refine LOps.valA ?_ | refine LOps.outA ?_ | refine LOps.whenA ?_ | refine LOps.pickA ?_ | refine LOps.storeA ?_)
  refine LOps.do (LDo.box rfl rfl) rfl rfl rfl ?_
  rintro _ _ ⟨b1, hb1, rfl, rfl⟩
  repeat (first | refine LOps.nil ?_ | refine andThen_normal ?_ | refine andThen_exit ?_ | refine andThen_ret ?_ | refine inBlock_normal ?_ | refine inBlock_ret ?_ | refine inBlock_here ?_ | refine inBlock_out rfl ?_ | refine LWp.seq ?_ | refine LWp.region ?_ | refine LWp.block ?_ | refine LWp.exit ?_ | refine LWp.ret ?_ | refine LWp.skip ?_ | refine LOps.valA ?_ | refine LOps.outA ?_ | refine LOps.whenA ?_ | refine LOps.pickA ?_ | refine LOps.storeA ?_)
  refine ⟨_, LRes.one rfl, ?_, .newBox (.refl _) hb1 _⟩
  rw [← bare_form]; rfl

def isEv (k id : Int) (e : Ev) : Bool := (e.kind == k) && (e.id == id)
def countS (l : List Ev) (k id : Int) : Nat := l.countP (isEv k id)
def answerS (l : List Ev) (id : Int) : Ans := match l.find? (isEv 2 id) with
  | some e => e.ans
  | none => noAns

theorem count_take {l : List Ev} {k id : Int} {j : Nat} (h : j < l.length) : countS (l.take (j + 1)) k id = countS (l.take j) k id + (if isEv k id l[j] then 1 else 0) := by
  unfold countS
  rw [List.take_succ_eq_append_getElem h, List.countP_append]
  simp [List.countP_cons]

set_option maxHeartbeats 1000000 in
theorem count_F {G : Ctx} (hP : G.P = Try.prog) (l : List Ev) (hl : l.length < 1000000) (k id : Int) : LFun G 30 [.one (.sl .sh (l.map evL)), .one (uv k), .one (iv id)] (.one (iv (countS l k id))) := LFun.of fun S => by
  have hD : TabOK G.P D := by rw [hP]; exact hD0
  refine LCalls.enter (fn := Try.f30) (by rw [hP]; exact Try.func30) rfl rfl ?_
  repeat (first | refine LOps.nil ?_ | refine andThen_normal ?_ | refine andThen_exit ?_ | refine andThen_ret ?_ | refine inBlock_normal ?_ | refine inBlock_ret ?_ | refine inBlock_here ?_ | refine inBlock_out rfl ?_ | refine LWp.seq ?_ | refine LWp.region ?_ | refine LWp.block ?_ | refine LWp.exit ?_ | refine LWp.ret ?_ | refine LWp.skip ?_ | refine LOps.valA ?_ | refine LOps.outA ?_ | refine LOps.whenA ?_ | refine LOps.pickA ?_ | refine LOps.storeA ?_)
  refine LWp.loop (fun m T S' => S' = S ∧ ∃ T' j, j ≤ l.length ∧ m = l.length - j ∧ T = over T' [(0, .one (.sl .sh (l.map evL))), (1, .one (uv k)), (2, .one (iv id)), (7, .one (iv (countS (l.take j) k id))), (8, .one (iv j))]) l.length ?_ ?_
  · exact ⟨rfl, _, 0, by omega, by omega, holds.over ⟨rfl, rfl, rfl, rfl, rfl, trivial⟩⟩
  rintro m T S' ⟨rfl, T', j, hj, rfl, rfl⟩
  have hc : countS (l.take j) k id ≤ l.length := Nat.le_trans List.countP_le_length (by rw [List.length_take]; omega)
  repeat (first | refine LOps.nil ?_ | refine andThen_normal ?_ | refine andThen_exit ?_ | refine andThen_ret ?_ | refine inBlock_normal ?_ | refine inBlock_ret ?_ | refine inBlock_here ?_ | refine inBlock_out rfl ?_ | refine LWp.seq ?_ | refine LWp.region ?_ | refine LWp.block ?_ | refine LWp.exit ?_ | refine LWp.ret ?_ | refine LWp.skip ?_ | refine LOps.valA ?_ | refine LOps.outA ?_ | refine LOps.whenA ?_ | refine LOps.pickA ?_ | refine LOps.storeA ?_)
  refine LWp.cond rfl (fun h => ?_) (fun h => ?_)
  · have hlt : j < l.length := by simpa using h
    repeat (first | refine LOps.nil ?_ | refine andThen_normal ?_ | refine andThen_exit ?_ | refine andThen_ret ?_ | refine inBlock_normal ?_ | refine inBlock_ret ?_ | refine inBlock_here ?_ | refine inBlock_out rfl ?_ | refine LWp.seq ?_ | refine LWp.region ?_ | refine LWp.block ?_ | refine LWp.exit ?_ | refine LWp.ret ?_ | refine LWp.skip ?_ | refine LOps.valA ?_ | refine LOps.outA ?_ | refine LOps.whenA ?_ | refine LOps.pickA ?_ | refine LOps.storeA ?_)
    refine LWp.cond rfl (fun h => ?_) (fun h => ?_)
    · repeat (first | refine LOps.nil ?_ | refine andThen_normal ?_ | refine andThen_exit ?_ | refine andThen_ret ?_ | refine inBlock_normal ?_ | refine inBlock_ret ?_ | refine inBlock_here ?_ | refine inBlock_out rfl ?_ | refine LWp.seq ?_ | refine LWp.region ?_ | refine LWp.block ?_ | refine LWp.exit ?_ | refine LWp.ret ?_ | refine LWp.skip ?_ | refine LOps.valA ?_ | refine LOps.outA ?_ | refine LOps.whenA ?_ | refine LOps.pickA ?_ | refine LOps.storeA ?_)
      refine ⟨l.length - (j + 1), by omega, rfl, _, j + 1, by omega, rfl, holds.over ⟨rfl, rfl, rfl, ?_, rfl, trivial⟩⟩
      rw [count_take hlt, if_pos (show isEv k id l[j] = true from h)]; rfl
    · repeat (first | refine LOps.nil ?_ | refine andThen_normal ?_ | refine andThen_exit ?_ | refine andThen_ret ?_ | refine inBlock_normal ?_ | refine inBlock_ret ?_ | refine inBlock_here ?_ | refine inBlock_out rfl ?_ | refine LWp.seq ?_ | refine LWp.region ?_ | refine LWp.block ?_ | refine LWp.exit ?_ | refine LWp.ret ?_ | refine LWp.skip ?_ | refine LOps.valA ?_ | refine LOps.outA ?_ | refine LOps.whenA ?_ | refine LOps.pickA ?_ | refine LOps.storeA ?_)
      refine ⟨l.length - (j + 1), by omega, rfl, _, j + 1, by omega, rfl, holds.over ⟨rfl, rfl, rfl, ?_, rfl, trivial⟩⟩
      rw [count_take hlt, if_neg (by rw [show isEv k id l[j] = false from h]; simp)]; rfl
  · have hge : l.length ≤ j := by simpa using h
    repeat (first | refine LOps.nil ?_ | refine andThen_normal ?_ | refine andThen_exit ?_ | refine andThen_ret ?_ | refine inBlock_normal ?_ | refine inBlock_ret ?_ | refine inBlock_here ?_ | refine inBlock_out rfl ?_ | refine LWp.seq ?_ | refine LWp.region ?_ | refine LWp.block ?_ | refine LWp.exit ?_ | refine LWp.ret ?_ | refine LWp.skip ?_ | refine LOps.valA ?_ | refine LOps.outA ?_ | refine LOps.whenA ?_ | refine LOps.pickA ?_ | refine LOps.storeA ?_)
    refine ⟨_, LRes.one rfl, ?_, LS.le.refl _⟩
    rw [List.take_of_length_le hge]; rfl

theorem answer_take {l : List Ev} {id : Int} {j : Nat} (h : j < l.length) (hn : ∀ e ∈ l.take j, isEv 2 id e = false) (hj : isEv 2 id l[j] = true) : answerS l id = l[j].ans := by
  have : l.find? (isEv 2 id) = some l[j] := by
    have h2 : (l.take j ++ l.drop j).find? (isEv 2 id) = some l[j] := by
      rw [List.find?_append, List.find?_eq_none.2 (fun e he => by rw [hn e he]; simp), Option.none_or, List.drop_eq_getElem_cons h, List.find?_cons_of_pos hj]
    rwa [List.take_append_drop] at h2
  simp [answerS, this]

set_option maxHeartbeats 1000000 in
theorem answer_F {G : Ctx} (hP : G.P = Try.prog) (l : List Ev) (hl : l.length < 1000000) (id : Int) : LFun G 14 [.one (.sl .sh (l.map evL)), .one (iv id)] (.agg (ansL (answerS l id))) := LFun.of fun S => by
  have hD : TabOK G.P D := by rw [hP]; exact hD0
  refine LCalls.enter (fn := Try.f14) (by rw [hP]; exact Try.func14) rfl rfl ?_
  repeat (first | refine LOps.nil ?_ | refine andThen_normal ?_ | refine andThen_exit ?_ | refine andThen_ret ?_ | refine inBlock_normal ?_ | refine inBlock_ret ?_ | refine inBlock_here ?_ | refine inBlock_out rfl ?_ | refine LWp.seq ?_ | refine LWp.region ?_ | refine LWp.block ?_ | refine LWp.exit ?_ | refine LWp.ret ?_ | refine LWp.skip ?_ | refine LOps.valA ?_ | refine LOps.outA ?_ | refine LOps.whenA ?_ | refine LOps.pickA ?_ | refine LOps.storeA ?_)
  refine LOps.do (LDo.alloc hD rfl rfl rfl) rfl rfl rfl ?_
  rintro _ _ ⟨b4, hb4, rfl, rfl⟩
  repeat (first | refine LOps.nil ?_ | refine andThen_normal ?_ | refine andThen_exit ?_ | refine andThen_ret ?_ | refine inBlock_normal ?_ | refine inBlock_ret ?_ | refine inBlock_here ?_ | refine inBlock_out rfl ?_ | refine LWp.seq ?_ | refine LWp.region ?_ | refine LWp.block ?_ | refine LWp.exit ?_ | refine LWp.ret ?_ | refine LWp.skip ?_ | refine LOps.valA ?_ | refine LOps.outA ?_ | refine LOps.whenA ?_ | refine LOps.pickA ?_ | refine LOps.storeA ?_)
  refine LWp.loop (fun m T S' => S' = S.newBox b4 (ansL noAns) ∧ ∃ T' j, j ≤ l.length ∧ m = l.length - j ∧ (∀ e ∈ l.take j, isEv 2 id e = false) ∧ T = over T' [(0, .one (.sl .sh (l.map evL))), (1, .one (iv id)), (4, .one (.v (.pointer (some ⟨b4, 0, none⟩)))), (5, .one (iv j))]) l.length ?_ ?_
  · exact ⟨rfl, _, 0, by omega, by omega, by simp, holds.over ⟨rfl, rfl, rfl, rfl, trivial⟩⟩
  rintro m T S' ⟨rfl, T', j, hj, rfl, hno, rfl⟩
  repeat (first | refine LOps.nil ?_ | refine andThen_normal ?_ | refine andThen_exit ?_ | refine andThen_ret ?_ | refine inBlock_normal ?_ | refine inBlock_ret ?_ | refine inBlock_here ?_ | refine inBlock_out rfl ?_ | refine LWp.seq ?_ | refine LWp.region ?_ | refine LWp.block ?_ | refine LWp.exit ?_ | refine LWp.ret ?_ | refine LWp.skip ?_ | refine LOps.valA ?_ | refine LOps.outA ?_ | refine LOps.whenA ?_ | refine LOps.pickA ?_ | refine LOps.storeA ?_)
  refine LWp.cond rfl (fun h => ?_) (fun h => ?_)
  · have hlt : j < l.length := by simpa using h
    repeat (first | refine LOps.nil ?_ | refine andThen_normal ?_ | refine andThen_exit ?_ | refine andThen_ret ?_ | refine inBlock_normal ?_ | refine inBlock_ret ?_ | refine inBlock_here ?_ | refine inBlock_out rfl ?_ | refine LWp.seq ?_ | refine LWp.region ?_ | refine LWp.block ?_ | refine LWp.exit ?_ | refine LWp.ret ?_ | refine LWp.skip ?_ | refine LOps.valA ?_ | refine LOps.outA ?_ | refine LOps.whenA ?_ | refine LOps.pickA ?_ | refine LOps.storeA ?_)
    refine LWp.cond rfl (fun h => ?_) (fun h => ?_)
    · repeat (first | refine LOps.nil ?_ | refine andThen_normal ?_ | refine andThen_exit ?_ | refine andThen_ret ?_ | refine inBlock_normal ?_ | refine inBlock_ret ?_ | refine inBlock_here ?_ | refine inBlock_out rfl ?_ | refine LWp.seq ?_ | refine LWp.region ?_ | refine LWp.block ?_ | refine LWp.exit ?_ | refine LWp.ret ?_ | refine LWp.skip ?_ | refine LOps.valA ?_ | refine LOps.outA ?_ | refine LOps.whenA ?_ | refine LOps.pickA ?_ | refine LOps.storeA ?_)
      refine ⟨_, LRes.cell rfl (.cell rfl (box_set _ _ _) (hP ▸ tok32) rfl), ?_, (LS.le.newBox (.refl _) hb4 _).setBox hb4.box _⟩
      rw [answer_take hlt hno h]; rfl
    · repeat (first | refine LOps.nil ?_ | refine andThen_normal ?_ | refine andThen_exit ?_ | refine andThen_ret ?_ | refine inBlock_normal ?_ | refine inBlock_ret ?_ | refine inBlock_here ?_ | refine inBlock_out rfl ?_ | refine LWp.seq ?_ | refine LWp.region ?_ | refine LWp.block ?_ | refine LWp.exit ?_ | refine LWp.ret ?_ | refine LWp.skip ?_ | refine LOps.valA ?_ | refine LOps.outA ?_ | refine LOps.whenA ?_ | refine LOps.pickA ?_ | refine LOps.storeA ?_)
      refine ⟨l.length - (j + 1), by omega, rfl, _, j + 1, by omega, rfl, ?_, holds.over ⟨rfl, rfl, rfl, rfl, trivial⟩⟩
      intro e he
      rw [List.take_succ_eq_append_getElem hlt, List.mem_append] at he
      rcases he with he | he
      · exact hno e he
      · obtain rfl : e = l[j] := by simpa using he
        exact h
  · have hge : l.length ≤ j := by simpa using h
    repeat (first | refine LOps.nil ?_ | refine andThen_normal ?_ | refine andThen_exit ?_ | refine andThen_ret ?_ | refine inBlock_normal ?_ | refine inBlock_ret ?_ | refine inBlock_here ?_ | refine inBlock_out rfl ?_ | refine LWp.seq ?_ | refine LWp.region ?_ | refine LWp.block ?_ | refine LWp.exit ?_ | refine LWp.ret ?_ | refine LWp.skip ?_ | refine LOps.valA ?_ | refine LOps.outA ?_ | refine LOps.whenA ?_ | refine LOps.pickA ?_ | refine LOps.storeA ?_)
    refine ⟨_, LRes.cell rfl (.cell rfl (box_set _ _ _) (hP ▸ tok32) rfl), ?_, (LS.le.newBox (.refl _) hb4 _).setBox hb4.box _⟩
    rw [List.take_of_length_le hge] at hno
    have : l.find? (isEv 2 id) = none := List.find?_eq_none.2 fun e he => by rw [hno e he]; simp
    simp [answerS, this]; rfl
end Go.Proofs.Ytmdfjojohfhcgaa.LF
