/- A call that leaves the memory as it was, as a value; a node that is a law's own; the law's wakes; a nil node. -/
import Derived.Test.YtinbibeapooghaaLAhI
import Derived.Test.YtinbibeapooghaaLAhT
set_option linter.unusedVariables false
set_option linter.unusedSimpArgs false
namespace Go.Proofs.Ytinbibeapooghaa.LF
open Go.RowKit
set_option linter.unusedVariables false
attribute [local irreducible] andThen inBlock LWp LOps LCalls

theorem LVal.callS {G : Ctx} {o : Oper} {T : Nat → TV} {S : LS} {f : FuncId} {fn : Func} {xs : List Operand} {ts : Array TypeId} {args : List TV} {r : TV}
    (h : LCalls G f args (fun r' S' => r' = r ∧ S' = S) S) (hf : G.P.funcs[f]? = some fn) (ho : o.op = .call { callee := .value (.func f), args := xs.toArray, argTypes := ts }) (hx : xs.map (fun x => shTV (lev T x)) = args) (hb : fn.body.isSome = true) (hn : fn.name ≠ "runtime.NumGoroutine") : LVal G o T S r := by
  intro K w a hi hr
  refine upon_mono ?_ (fun _ _ _ h => h) (LDo.call ho hx hf hb hn h K w a hi hr)
  rintro a' w' ⟨r', v, S', K', h1, h2, h3, h4, rfl, rfl⟩
  exact ⟨v, K', h1, h2, h3, h4⟩

structure OwnI (S0 S : LS) (F : Nat → Prop) (b k : Nat) (l : Kv Int) : Prop where
  le : S0.le S
  new : ∀ c, F c → S0.box c = none
  node : NodeI S F b k l
structure OwnT (S0 S : LS) (F : Nat → Prop) (b k : Nat) (l : Kv ByteArray) : Prop where
  le : S0.le S
  new : ∀ c, F c → S0.box c = none
  node : NodeT S F b k l
theorem OwnI.next {S0 S S' : LS} {F F' : Nat → Prop} {b k k' : Nat} {l l' : Kv Int} (h : OwnI S0 S F b k l) (h1 : NodeI S' F' b k' l') (mv : MvF S F S' F') : OwnI S0 S' F' b k' l' := ⟨h.le.mvFI mv h.new, MvF.newI h.le mv h.new, h1⟩
theorem OwnT.next {S0 S S' : LS} {F F' : Nat → Prop} {b k k' : Nat} {l l' : Kv ByteArray} (h : OwnT S0 S F b k l) (h1 : NodeT S' F' b k' l') (mv : MvF S F S' F') : OwnT S0 S' F' b k' l' := ⟨h.le.mvFI mv h.new, MvF.newI h.le mv h.new, h1⟩

abbrev xB : ByteArray := { data := #[120] }
abbrev St (α : Type) := Nat × Kv α
def putSt {α : Type} (s : St α) (b : Nat) (x : α) : St α := (setK s.1 s.2 b, setL s.2 b x)
def offSt {α : Type} (s : St α) (b : Nat) : St α := (dropK s.1 s.2 b, delL s.2 b)
theorem isTrueA (x : Bool) (h : x = true) : TV.one (LV.v (Value.bool x)) = .one (bv true) := by rw [h]
/-- The law's node, so many bytes set. -/
def wk : Nat → St ByteArray
  | 0 => (4, [])
  | n + 1 => putSt (wk n) (n + 1) xB

set_option maxHeartbeats 4000000 in
theorem wakes_L {G : Ctx} (hP : G.P = Try.prog) (S : LS) : LCalls G 8 [] (fun r S' => r = .one (bv true) ∧ S.le S') S := by
  have hD : TabOK G.P D := by rw [hP]; exact hD0
  refine LCalls.enter (fn := Try.f8) (by rw [hP]; exact Try.func8) rfl rfl ?_
  repeat (first | refine LOps.nil ?_ | refine andThen_normal ?_ | refine andThen_exit ?_ | refine andThen_ret ?_ | refine inBlock_normal ?_ | refine inBlock_ret ?_ | refine inBlock_here ?_ | refine inBlock_out rfl ?_ | refine LWp.seq ?_ | refine LWp.region ?_ | refine LWp.block ?_ | refine LWp.exit ?_ | refine LWp.ret ?_ | refine LWp.skip ?_ | refine LOps.valA ?_ | refine LOps.outA ?_ | refine LOps.whenA ?_ | refine LOps.pickA ?_ | refine LOps.storeA ?_)
  refine LOps.do (LDo.callF (newT_L hP _) (by rw [hP]; exact Try.func22)) rfl rfl rfl ?_
  rintro _ S1 ⟨b, F, rfl, le1, new1, h1⟩
  repeat (first | refine LWp.seq (LWp.cut 2 (fun T1 S1 => ∃ (T2 : Nat → TV) (F : Nat → Prop), OwnT S S1 F b (wk 5).1 (wk 5).2 ∧ T1 = over T2 [(1, ptr b)]) rfl ?_ ?_) | refine LOps.nil ?_ | refine andThen_normal ?_ | refine andThen_exit ?_ | refine andThen_ret ?_ | refine inBlock_normal ?_ | refine inBlock_ret ?_ | refine inBlock_here ?_ | refine inBlock_out rfl ?_ | refine LWp.seq ?_ | refine LWp.region ?_ | refine LWp.block ?_ | refine LWp.exit ?_ | refine LWp.ret ?_ | refine LWp.skip ?_ | refine LOps.valA ?_ | refine LOps.outA ?_ | refine LOps.whenA ?_ | refine LOps.pickA ?_ | refine LOps.storeA ?_)
  · repeat (first | refine LOps.nil ?_ | refine andThen_normal ?_ | refine andThen_exit ?_ | refine andThen_ret ?_ | refine inBlock_normal ?_ | refine inBlock_ret ?_ | refine inBlock_here ?_ | refine inBlock_out rfl ?_ | refine LWp.seq ?_ | refine LWp.region ?_ | refine LWp.block ?_ | refine LWp.exit ?_ | refine LWp.ret ?_ | refine LWp.skip ?_ | refine LOps.valA ?_ | refine LOps.outA ?_ | refine LOps.whenA ?_ | refine LOps.pickA ?_ | refine LOps.storeA ?_)
    refine LWp.loop (fun m T S' => ∃ (T' : Nat → TV) (j : Nat) (F : Nat → Prop), j ≤ 5 ∧ m = 5 - j ∧ OwnT S S' F b (wk j).1 (wk j).2 ∧ T = over T' [(1, ptr b), (2, .one (uv (j + 1 : Nat)))]) 5 ?_ ?_
    · exact ⟨_, 0, F, by omega, rfl, ⟨le1, new1, h1⟩, holds.over ⟨rfl, rfl, trivial⟩⟩
    clear le1 new1 h1 S1 F
    rintro m T S1 ⟨T', j, F, hj, rfl, hO, rfl⟩
    repeat (first | refine LOps.nil ?_ | refine andThen_normal ?_ | refine andThen_exit ?_ | refine andThen_ret ?_ | refine inBlock_normal ?_ | refine inBlock_ret ?_ | refine inBlock_here ?_ | refine inBlock_out rfl ?_ | refine LWp.seq ?_ | refine LWp.region ?_ | refine LWp.block ?_ | refine LWp.exit ?_ | refine LWp.ret ?_ | refine LWp.skip ?_ | refine LOps.valA ?_ | refine LOps.outA ?_ | refine LOps.whenA ?_ | refine LOps.pickA ?_ | refine LOps.storeA ?_)
    refine LWp.cond rfl (fun h => ?_) (fun h => ?_)
    · have hlt : j < 5 := by have h : decide (((j + 1 : Nat) : Int) ≤ 5) = true := h; simp at h; omega
      repeat (first | refine LOps.nil ?_ | refine andThen_normal ?_ | refine andThen_exit ?_ | refine andThen_ret ?_ | refine inBlock_normal ?_ | refine inBlock_ret ?_ | refine inBlock_here ?_ | refine inBlock_out rfl ?_ | refine LWp.seq ?_ | refine LWp.region ?_ | refine LWp.block ?_ | refine LWp.exit ?_ | refine LWp.ret ?_ | refine LWp.skip ?_ | refine LOps.valA ?_ | refine LOps.outA ?_ | refine LOps.whenA ?_ | refine LOps.pickA ?_ | refine LOps.storeA ?_)
      refine LOps.do (LDo.callF (setT_L hP hO.node (c := j + 1) (by omega) xB) (by rw [hP]; exact Try.func24)) rfl rfl rfl ?_
      rintro _ S2 ⟨rfl, F2, h2, mv⟩
      repeat (first | refine LOps.valH (r := .one (uv (j + 1 + 1 : Nat))) (LVal.to (LVal.binOp hD rfl rfl rfl rfl) (by show TV.one (.v (.int .u8 (IntKind.u8.wrap (((j + 1 : Nat) : Int) + 1)))) = _; rw [show ((j + 1 : Nat) : Int) + 1 = ((j + 1 + 1 : Nat) : Int) from rfl, lt_wrap8I (n := j + 1 + 1) (by omega)])) ?_ | refine LOps.nil ?_ | refine andThen_normal ?_ | refine andThen_exit ?_ | refine andThen_ret ?_ | refine inBlock_normal ?_ | refine inBlock_ret ?_ | refine inBlock_here ?_ | refine inBlock_out rfl ?_ | refine LWp.seq ?_ | refine LWp.region ?_ | refine LWp.block ?_ | refine LWp.exit ?_ | refine LWp.ret ?_ | refine LWp.skip ?_ | refine LOps.valA ?_ | refine LOps.outA ?_ | refine LOps.whenA ?_ | refine LOps.pickA ?_ | refine LOps.storeA ?_)
      exact ⟨5 - (j + 1), by omega, _, j + 1, F2, hlt, rfl, hO.next h2 mv, holds.over ⟨rfl, rfl, trivial⟩⟩
    · have hge : j = 5 := by have h : decide (((j + 1 : Nat) : Int) ≤ 5) = false := h; simp at h; omega
      subst hge
      repeat (first | refine LOps.nil ?_ | refine andThen_normal ?_ | refine andThen_exit ?_ | refine andThen_ret ?_ | refine inBlock_normal ?_ | refine inBlock_ret ?_ | refine inBlock_here ?_ | refine inBlock_out rfl ?_ | refine LWp.seq ?_ | refine LWp.region ?_ | refine LWp.block ?_ | refine LWp.exit ?_ | refine LWp.ret ?_ | refine LWp.skip ?_ | refine LOps.valA ?_ | refine LOps.outA ?_ | refine LOps.whenA ?_ | refine LOps.pickA ?_ | refine LOps.storeA ?_)
      exact ⟨_, F, hO, holds.over ⟨rfl, trivial⟩⟩
  clear le1 new1 h1 S1 F
  rintro T1 S1 ⟨T2, F, hO, rfl⟩
  have hk := nodeT_kind hP hO.node
  rw [show (wk 5).1 = 16 by kernel_rfl] at hk
  repeat (first | refine LOps.valH (LVal.callS hk (by rw [hP]; exact Try.func23) rfl rfl rfl (by decide)) ?_ | refine LOps.nil ?_ | refine andThen_normal ?_ | refine andThen_exit ?_ | refine andThen_ret ?_ | refine inBlock_normal ?_ | refine inBlock_ret ?_ | refine inBlock_here ?_ | refine inBlock_out rfl ?_ | refine LWp.seq ?_ | refine LWp.region ?_ | refine LWp.block ?_ | refine LWp.exit ?_ | refine LWp.ret ?_ | refine LWp.skip ?_ | refine LOps.valA ?_ | refine LOps.outA ?_ | refine LOps.whenA ?_ | refine LOps.pickA ?_ | refine LOps.storeA ?_)
  refine LOps.do (LDo.callF (dropT_L hP hO.node (c := 5) (by decide)) (by rw [hP]; exact Try.func28)) rfl rfl rfl ?_
  rintro _ S2 ⟨rfl, F2, h2, mv2⟩
  replace hO := hO.next h2 mv2
  clear h2 mv2 hk
  repeat (first | refine LOps.nil ?_ | refine andThen_normal ?_ | refine andThen_exit ?_ | refine andThen_ret ?_ | refine inBlock_normal ?_ | refine inBlock_ret ?_ | refine inBlock_here ?_ | refine inBlock_out rfl ?_ | refine LWp.seq ?_ | refine LWp.region ?_ | refine LWp.block ?_ | refine LWp.exit ?_ | refine LWp.ret ?_ | refine LWp.skip ?_ | refine LOps.valA ?_ | refine LOps.outA ?_ | refine LOps.whenA ?_ | refine LOps.pickA ?_ | refine LOps.storeA ?_)
  refine LOps.do (LDo.callF (dropT_L hP hO.node (c := 4) (by decide)) (by rw [hP]; exact Try.func28)) rfl rfl rfl ?_
  rintro _ S3 ⟨rfl, F3, h3, mv3⟩
  replace hO := hO.next h3 mv3
  clear h3 mv3
  have hk := nodeT_kind hP hO.node
  have hl := nodeT_len hP hO.node
  have hg := nodeT_get hP hO.node (c := 2) (by decide)
  rw [show dropK (dropK (wk 5).1 (wk 5).2 5) (delL (wk 5).2 5) 4 = 4 by kernel_rfl] at hk
  rw [show (delL (delL (wk 5).2 5) 4).length = 3 by kernel_rfl] at hl
  rw [show getT (delL (delL (wk 5).2 5) 4) 2 = .tup [.one (sv xB), .one (bv true)] by kernel_rfl] at hg
  repeat (first | refine LOps.valH (LVal.callS hg (by rw [hP]; exact Try.func26) rfl rfl rfl (by decide)) ?_ | refine LOps.whenC (LVal.callS hk (by rw [hP]; exact Try.func23) rfl rfl rfl (by decide)) ?_ | refine LOps.whenC (LVal.callS hl (by rw [hP]; exact Try.func25) rfl rfl rfl (by decide)) ?_ | refine LOps.nil ?_ | refine andThen_normal ?_ | refine andThen_exit ?_ | refine andThen_ret ?_ | refine inBlock_normal ?_ | refine inBlock_ret ?_ | refine inBlock_here ?_ | refine inBlock_out rfl ?_ | refine LWp.seq ?_ | refine LWp.region ?_ | refine LWp.block ?_ | refine LWp.exit ?_ | refine LWp.ret ?_ | refine LWp.skip ?_ | refine LOps.valA ?_ | refine LOps.outA ?_ | refine LOps.whenA ?_ | refine LOps.pickA ?_ | refine LOps.storeA ?_)
  exact ⟨_, LRes.one rfl, isTrueA _ (by decide +kernel), hO.le⟩
end Go.Proofs.Ytinbibeapooghaa.LF
