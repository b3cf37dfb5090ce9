/- What is told of a row: Marks, find, State, Ahead, Check; of the program's and of the document's. -/
import Derived.Test.YtmdfjojohfhcgaaLHf
import Derived.Test.YtmdfjojohfhcgaaLFt
set_option linter.unusedVariables false
set_option linter.unusedSimpArgs false
namespace Go.Proofs.Ytmdfjojohfhcgaa.LF
open Go.RowKit

def idxS (p : Ev → Bool) (l : List Ev) : Int := match l.findIdx? p with
  | some i => i
  | none => -1

theorem idx_take {p : Ev → Bool} {l : List Ev} {j : Nat} (hj : j < l.length) (hn : ∀ e ∈ l.take j, p e = false) (hp : p l[j] = true) : l.findIdx? p = some j := by
  rw [List.findIdx?_eq_some_iff_getElem]
  refine ⟨hj, hp, fun i hi => ?_⟩
  have := hn l[i] (by rw [List.mem_take_iff_getElem]; exact ⟨i, by omega, rfl⟩)
  simp [this]
theorem idx_none {p : Ev → Bool} {l : List Ev} (hn : ∀ e ∈ l, p e = false) : l.findIdx? p = none := by
  rw [List.findIdx?_eq_none_iff]; exact fun e he => hn e he

/-- A function value that holds events against something, in a memory. -/
def Pred (G : Ctx) (fid : FuncId) (caps : List Value) (p : Ev → Bool) (S : LS) : Prop := ∀ e, LCalls G fid ([.agg (evL e)] ++ caps.map fun v => .one (.v v)) (fun r S' => r = .one (bv (p e)) ∧ S' = S) S

set_option maxHeartbeats 4000000 in
theorem index_L {G : Ctx} (hP : G.P = Try.prog) (fid : FuncId) (fn : Func) (hfn : G.P.funcs[fid]? = some fn) (hb : fn.body.isSome = true) (hn : fn.name ≠ "runtime.NumGoroutine") (caps : List Value) (hcs : caps.all (fun v => v.oneCell') = true) (p : Ev → Bool) (l : List Ev) (hl : l.length ≤ 1000000) (S : LS) (hp : Pred G fid caps p S) :
    LCalls G 34 [.one (.sl .sh (l.map evL)), .one (.v (.func (.func fid) #[] caps.toArray))] (fun r S' => r = .one (iv (idxS p l)) ∧ S' = S) S := by
  have hD : TabOK G.P D := by rw [hP]; exact hD0
  refine LCalls.enter (fn := Try.f34) (by rw [hP]; exact Try.func34) rfl rfl ?_
  repeat (first | refine LOps.nil ?_ | refine andThen_normal ?_ | refine andThen_exit ?_ | refine andThen_ret ?_ | refine inBlock_normal ?_ | refine inBlock_ret ?_ | refine inBlock_here ?_ | refine inBlock_out rfl ?_ | refine LWp.seq ?_ | refine LWp.region ?_ | refine LWp.block ?_ | refine LWp.exit ?_ | refine LWp.ret ?_ | refine LWp.skip ?_ | refine LOps.valA ?_ | refine LOps.outA ?_ | refine LOps.whenA ?_ | refine LOps.pickA ?_ | refine LOps.storeA ?_)
  refine LWp.loop (fun k T S' => S' = S ∧ ∃ T' j, j ≤ l.length ∧ k = l.length - j ∧ (∀ e ∈ l.take j, p e = false) ∧ T = over T' [(0, .one (.sl .sh (l.map evL))), (1, .one (.v (.func (.func fid) #[] caps.toArray))), (7, .one (iv l.length)), (8, .one (iv j))]) l.length ?_ ?_
  · exact ⟨rfl, _, 0, by omega, by omega, by simp, holds.over ⟨rfl, rfl, by show TV.one (iv ((l.map evL).length : Int)) = _; rw [List.length_map], rfl, trivial⟩⟩
  rintro k T S' ⟨rfl, T', j, hj, rfl, hno, rfl⟩
  repeat (first | refine LOps.nil ?_ | refine andThen_normal ?_ | refine andThen_exit ?_ | refine andThen_ret ?_ | refine inBlock_normal ?_ | refine inBlock_ret ?_ | refine inBlock_here ?_ | refine inBlock_out rfl ?_ | refine LWp.seq ?_ | refine LWp.region ?_ | refine LWp.block ?_ | refine LWp.exit ?_ | refine LWp.ret ?_ | refine LWp.skip ?_ | refine LOps.valA ?_ | refine LOps.outA ?_ | refine LOps.whenA ?_ | refine LOps.pickA ?_ | refine LOps.storeA ?_)
  refine LWp.cond rfl (fun h => ?_) (fun h => ?_)
  · have hlt : j < l.length := by simpa using h
    repeat (first | refine LOps.nil ?_ | refine andThen_normal ?_ | refine andThen_exit ?_ | refine andThen_ret ?_ | refine inBlock_normal ?_ | refine inBlock_ret ?_ | refine inBlock_here ?_ | refine inBlock_out rfl ?_ | refine LWp.seq ?_ | refine LWp.region ?_ | refine LWp.block ?_ | refine LWp.exit ?_ | refine LWp.ret ?_ | refine LWp.skip ?_ | refine LOps.valA ?_ | refine LOps.outA ?_ | refine LOps.whenA ?_ | refine LOps.pickA ?_ | refine LOps.storeA ?_)
    refine LOps.do (LDo.callV (cs := caps) rfl rfl rfl hcs hfn hb hn (hp l[j])) rfl rfl rfl ?_
    rintro _ _ ⟨rfl, rfl⟩
    repeat (first | refine LOps.nil ?_ | refine andThen_normal ?_ | refine andThen_exit ?_ | refine andThen_ret ?_ | refine inBlock_normal ?_ | refine inBlock_ret ?_ | refine inBlock_here ?_ | refine inBlock_out rfl ?_ | refine LWp.seq ?_ | refine LWp.region ?_ | refine LWp.block ?_ | refine LWp.exit ?_ | refine LWp.ret ?_ | refine LWp.skip ?_ | refine LOps.valA ?_ | refine LOps.outA ?_ | refine LOps.whenA ?_ | refine LOps.pickA ?_ | refine LOps.storeA ?_)
    refine LWp.cond rfl (fun h => ?_) (fun h => ?_)
    · repeat (first | refine LOps.nil ?_ | refine andThen_normal ?_ | refine andThen_exit ?_ | refine andThen_ret ?_ | refine inBlock_normal ?_ | refine inBlock_ret ?_ | refine inBlock_here ?_ | refine inBlock_out rfl ?_ | refine LWp.seq ?_ | refine LWp.region ?_ | refine LWp.block ?_ | refine LWp.exit ?_ | refine LWp.ret ?_ | refine LWp.skip ?_ | refine LOps.valA ?_ | refine LOps.outA ?_ | refine LOps.whenA ?_ | refine LOps.pickA ?_ | refine LOps.storeA ?_)
      refine ⟨_, LRes.one rfl, ?_, rfl⟩
      simp only [idxS, idx_take hlt hno h]; rfl
    · repeat (first | refine LOps.nil ?_ | refine andThen_normal ?_ | refine andThen_exit ?_ | refine andThen_ret ?_ | refine inBlock_normal ?_ | refine inBlock_ret ?_ | refine inBlock_here ?_ | refine inBlock_out rfl ?_ | refine LWp.seq ?_ | refine LWp.region ?_ | refine LWp.block ?_ | refine LWp.exit ?_ | refine LWp.ret ?_ | refine LWp.skip ?_ | refine LOps.valA ?_ | refine LOps.outA ?_ | refine LOps.whenA ?_ | refine LOps.pickA ?_ | refine LOps.storeA ?_)
      refine ⟨l.length - (j + 1), by omega, rfl, _, j + 1, by omega, rfl, ?_, holds.over ⟨rfl, rfl, rfl, rfl, trivial⟩⟩
      intro e he
      rw [List.take_succ_eq_append_getElem hlt, List.mem_append] at he
      rcases he with he | he
      · exact hno e he
      · obtain rfl : e = l[j] := by simpa using he
        exact h
  · have hge : l.length ≤ j := by simpa using h
    repeat (first | refine LOps.nil ?_ | refine andThen_normal ?_ | refine andThen_exit ?_ | refine andThen_ret ?_ | refine inBlock_normal ?_ | refine inBlock_ret ?_ | refine inBlock_here ?_ | refine inBlock_out rfl ?_ | refine LWp.seq ?_ | refine LWp.region ?_ | refine LWp.block ?_ | refine LWp.exit ?_ | refine LWp.ret ?_ | refine LWp.skip ?_ | refine LOps.valA ?_ | refine LOps.outA ?_ | refine LOps.whenA ?_ | refine LOps.pickA ?_ | refine LOps.storeA ?_)
    refine ⟨_, LRes.one rfl, ?_, rfl⟩
    rw [List.take_of_length_le hge] at hno
    simp only [idxS, idx_none hno]; rfl

theorem contains_L {G : Ctx} (hP : G.P = Try.prog) (fid : FuncId) (fn : Func) (hfn : G.P.funcs[fid]? = some fn) (hb : fn.body.isSome = true) (hn : fn.name ≠ "runtime.NumGoroutine") (caps : List Value) (hcs : caps.all (fun v => v.oneCell') = true) (p : Ev → Bool) (l : List Ev) (hl : l.length ≤ 1000000) (S : LS) (hp : Pred G fid caps p S) :
    LCalls G 36 [.one (.sl .sh (l.map evL)), .one (.v (.func (.func fid) #[] caps.toArray))] (fun r S' => r = .one (bv (decide (idxS p l ≥ 0))) ∧ S' = S) S := by
  have hD : TabOK G.P D := by rw [hP]; exact hD0
  refine LCalls.enter (fn := Try.f36) (by rw [hP]; exact Try.func36) rfl rfl ?_
  repeat (first | refine LOps.nil ?_ | refine andThen_normal ?_ | refine andThen_exit ?_ | refine andThen_ret ?_ | refine inBlock_normal ?_ | refine inBlock_ret ?_ | refine inBlock_here ?_ | refine inBlock_out rfl ?_ | refine LWp.seq ?_ | refine LWp.region ?_ | refine LWp.block ?_ | refine LWp.exit ?_ | refine LWp.ret ?_ | refine LWp.skip ?_ | refine LOps.valA ?_ | refine LOps.outA ?_ | refine LOps.whenA ?_ | refine LOps.pickA ?_ | refine LOps.storeA ?_)
  refine LOps.do (LDo.callF (index_L hP fid fn hfn hb hn caps hcs p l hl S hp) (by rw [hP]; exact Try.func34)) rfl rfl rfl ?_
  rintro _ _ ⟨rfl, rfl⟩
  repeat (first | refine LOps.nil ?_ | refine andThen_normal ?_ | refine andThen_exit ?_ | refine andThen_ret ?_ | refine inBlock_normal ?_ | refine inBlock_ret ?_ | refine inBlock_here ?_ | refine inBlock_out rfl ?_ | refine LWp.seq ?_ | refine LWp.region ?_ | refine LWp.block ?_ | refine LWp.exit ?_ | refine LWp.ret ?_ | refine LWp.skip ?_ | refine LOps.valA ?_ | refine LOps.outA ?_ | refine LOps.whenA ?_ | refine LOps.pickA ?_ | refine LOps.storeA ?_)
  exact ⟨_, LRes.one rfl, rfl, rfl⟩

set_option maxHeartbeats 4000000 in
theorem find1_P {G : Ctx} (hP : G.P = Try.prog) (b4 b5 : Nat) (k id : Int) (S : LS) (h4 : S.box b4 = some [uv k]) (h5 : S.box b5 = some [iv id]) : Pred G 40 [.pointer (some ⟨b4, 0, none⟩), .pointer (some ⟨b5, 0, none⟩)] (isEv k id) S := fun e => by
  have hD : TabOK G.P D := by rw [hP]; exact hD0
  have := LCalls.forget (G := G) (S := S) (f := 40) (args := [.agg (evL e), .one (.v (.pointer (some ⟨b4, 0, none⟩))), .one (.v (.pointer (some ⟨b5, 0, none⟩)))]) (Q := fun r _ => r = .one (bv (isEv k id e))) (by
    refine LCalls.enter (fn := Try.f40) (by rw [hP]; exact Try.func40) rfl rfl ?_
    repeat (first | refine LOps.nil ?_ | refine andThen_normal ?_ | refine andThen_exit ?_ | refine andThen_ret ?_ | refine inBlock_normal ?_ | refine inBlock_ret ?_ | refine inBlock_here ?_ | refine inBlock_out rfl ?_ | refine LWp.seq ?_ | refine LWp.region ?_ | refine LWp.block ?_ | refine LWp.exit ?_ | refine LWp.ret ?_ | refine LWp.skip ?_ | refine LOps.valA ?_ | refine LOps.outA ?_ | refine LOps.whenA ?_ | refine LOps.pickA ?_ | refine LOps.storeA ?_)
    refine LOps.do (LDo.box rfl rfl) rfl rfl rfl ?_
    rintro _ _ ⟨b3, hb3, rfl, rfl⟩
    have n4 := fresh_ne hb3 h4
    have n5 := fresh_ne hb3 h5
    repeat (first | refine LOps.nil ?_ | refine andThen_normal ?_ | refine andThen_exit ?_ | refine andThen_ret ?_ | refine inBlock_normal ?_ | refine inBlock_ret ?_ | refine inBlock_here ?_ | refine inBlock_out rfl ?_ | refine LWp.seq ?_ | refine LWp.region ?_ | refine LWp.block ?_ | refine LWp.exit ?_ | refine LWp.ret ?_ | refine LWp.skip ?_ | refine LOps.valA ?_ | refine LOps.outA ?_ | refine LOps.whenA ?_ | refine LOps.pickA ?_ | refine LOps.storeA ?_)
    exact ⟨_, LRes.one rfl, .newBox (.refl _) hb3 _, rfl⟩)
  intro K w vals h1 h2
  exact (this K w vals h1 h2).mono fun e w' hp => by
    obtain ⟨r, v, S', K', e1, e2, e3, e4, e5, e6⟩ := hp
    exact ⟨r, v, S', K', e1, e2, e3, e4, e6, e5⟩
end Go.Proofs.Ytmdfjojohfhcgaa.LF
