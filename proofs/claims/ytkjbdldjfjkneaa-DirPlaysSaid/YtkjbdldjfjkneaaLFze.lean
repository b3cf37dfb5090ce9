/- A call of yield in a region whose order is drawn. -/
import Derived.Test.YtkjbdldjfjkneaaLFzd
import Derived.Test.YtkjbdldjfjkneaaLFi
set_option linter.unusedVariables false
set_option linter.unusedSimpArgs false
namespace Go.Proofs.Ytkjbdldjfjkneaa.LF
open Go.RowKit

theorem LAct.yield {G : Ctx} {o : Oper} {T : Nat → TV} {S : LS} {f : Operand} {xs : List Operand} {ts : Array TypeId} {l : Nat} {args : List TV} {R : Bool → LS → Prop}
    (ho : o.op = .call { callee := .value f, args := xs.toArray, argTypes := ts }) (hf : lev T f = .one (.v (.func (.yield l) #[] #[]))) (hx : xs.map (fun x => shTV (lev T x)) = args)
    (h : LYield G l args R S) : LAct G none o T S fun r S' => ∃ b, r = .one (.v (.bool b)) ∧ R b S' := by
  intro K w a N Q hi hr hn
  have h1 := hr f (by rw [ho]; simp [Op.operands, Call.operands])
  rw [hf] at h1
  have ha : ArgsRel G w K args (xs.map a.eval).toArray := by
    subst hx
    refine ⟨by simp, fun i x v hx' hv => ?_⟩
    rw [List.getElem?_map] at hx'
    rw [List.getElem?_toArray, List.getElem?_map] at hv
    cases hq : xs[i]? with
    | none => rw [hq] at hx'; simp at hx'
    | some y =>
      rw [hq] at hx' hv
      simp only [Option.map_some, Option.some.injEq] at hx' hv
      subst hx'; subst hv
      exact (hr y (by rw [ho]; simp [Op.operands, Call.operands, List.mem_of_getElem? hq])).shTV
  obtain ⟨fn, tmps, assign, body, e1, e2⟩ := h K w _ hi ha
  refine ⟨fun f _ => trivial, ?_⟩
  have hrun : (o.semAt (fen none).round a.eval).run G.P w = .ok (.round l fn tmps assign body) w := by
    show (execOp a.eval o).run G.P w = _
    have := h1.flat
    simp [execOp, ho, resolve, this, Deferred.ofValue, invoke, e1]
  rw [hrun]
  refine ⟨fun hd => by simp [fen, Fence.wide] at hd, e2.mono fun e w' hp => ?_⟩
  obtain ⟨r, S', K', rfl, j1, j2, j3⟩ := hp
  exact hn (.one (.v (.bool r))) (.bool r) S' K' w' (.raw rfl) j1 j2 ⟨r, rfl, j3⟩

theorem LRl.yield {X : Nat → Prop} {G : Ctx} {n : Nat} {ops : List Oper} {ord : List Nat} {Q : (Nat → TV) → LS → Prop} {os : List Oper} {p : Nat} {T : Nat → TV} {S : LS} {o : Oper} {f : Operand} {xs : List Operand} {ts : Array TypeId} {l : Nat} {args : List TV} {R : Bool → LS → Prop} {d : Nat}
    (ho : o.op = .call { callee := .value f, args := xs.toArray, argTypes := ts }) (hf : lev T f = .one (.v (.func (.yield l) #[] #[]))) (hx : xs.map (fun x => shTV (lev T x)) = args) (ha : laterAll ops ord p = true) (hg : wantedT ops.toArray T o = some true) (hd : o.dst = some d) (hn : Nat.blt d n = true)
    (h : LYield G l args R S) (hm : ∀ b S', R b S' → S.leX X S' ∨ earlierAll ops ord p = true) (k : ∀ b S', R b S' → LRl X G none n ops ord Q os (p + 1) (upd T d (.one (.v (.bool b)))) S') : LRl X G none n ops ord Q (o :: os) p T S :=
  .actA (.yield ho hf hx h) ha hg hd hn (by rintro _ _ ⟨b, rfl, hr⟩; exact hm b _ hr) (by rintro _ _ ⟨b, rfl, hr⟩; exact k b _ hr)
end Go.Proofs.Ytkjbdldjfjkneaa.LF
