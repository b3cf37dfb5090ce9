/- slices.overlaps of a row that stays, and a box. -/
import Derived.Test.YtinbibeapooghaaLGc
import Derived.Lib.Overlaps
import Derived.Laws.LoneSync
set_option linter.unusedVariables false
set_option linter.unusedSimpArgs false
namespace Go.Proofs.Ytinbibeapooghaa.LF
open Go.RowKit
set_option linter.unusedVariables false

theorem run_overlaps_box {P : Program} (w : World) (tS tR e : TypeId) (ht : P.underlying tS = some (.slice e)) (size : Nat) (hz : ∀ w, (Go.sizeOf e).run P w = .ok size w)
    (a b : Addr) (la ca lb cb : Nat) (hne : a.block ≠ b.block) (tA tB : TypeId) (kA kB : Nat)
    (hsa : w.shape? a.block = some (tA, kA)) (hsb : w.shape? b.block = some (tB, kB)) (hkA : kA ≠ 0) (hkB : kB ≠ 0)
    (hfb : w.frozen? b = false) (hfe : w.frozen? { block := b.block, off := kB } = false) :
    (Extern.SlicesOverlaps.overlaps #[tS, tS] #[tR] #[.slice (some a) la ca, .slice (some b) lb cb]).run P w = .ok (.bool false) w := by
  have hnb : (a.block != b.block) = true := by simpa using hne
  have hnb' : (a.block == b.block) = false := by simpa using hne
  delta Extern.SlicesOverlaps.overlaps Extern.SlicesOverlaps.overlaps.match_4 Extern.SlicesOverlaps.overlaps._sparseCasesOn_4
  dsimp only [Array.getLit, List.getElem_toArray, List.getElem_cons_zero, List.getElem_cons_succ]
  by_cases h0 : la = 0 ∨ lb = 0 ∨ size = 0
  · simp [run_underlying ht, hz, h0]
  · cases kA with
    | zero => exact absurd rfl hkA
    | succ kA =>
      cases kB with
      | zero => exact absurd rfl hkB
      | succ kB =>
        cases hfa : w.frozen? a <;> cases hfc : w.frozen? { block := a.block, off := kA + 1 } <;>
          simp [run_underlying ht, hz, h0, hnb, hnb', frozen, noView, viewAt, mayBeOne, stringish, shape, Sem.run, hsa, hsb, hfb, hfe, hfa, hfc]

theorem LVal.overlapsS {G : Ctx} {D : Tab} (hD : TabOK G.P D) {o : Oper} {T : Nat → TV} {S : LS} {t e : TypeId} {i j : TI} {x y : Operand} {f : FuncId} {fn : Func} {ts : Array TypeId} {w0 : Own} {es : List (List LV)} {x0 : LV} {b' off' n' c' : Nat} {cs' : List LV} {tR : TypeId} (ho : o.op = .call { callee := .value (.func f), args := #[x, y], argTypes := ts })
    (hf : G.P.funcs[f]? = some fn) (hname : (fn.name == "runtime.NumGoroutine") = false) (hbn : fn.body.isNone = true) (hnx : Extern.findNext fn = none) (hfe : Extern.find fn = some (Extern.SlicesOverlaps.overlaps #[t, t] #[tR]))
    (hx : lev T x = .one (.sl w0 es)) (hy : lev T y = .one (rsl b' off' n' c')) (hi : D.get t = some i) (hd : i.desc = .slice e) (hj : D.get e = some j) (h0 : cellOf es 0 0 = some x0) (hb' : S.box b' = some cs') (hl : cs'.length ≠ 0) :
    LVal G o T S (.one (.v (.bool false))) :=
  .of_run fun K w ac hi' hr => by
    have h1 := hr x (by rw [ho]; simp [Op.operands, Call.operands])
    have h2 := hr y (by rw [ho]; simp [Op.operands, Call.operands])
    rw [hx] at h1
    rw [hy] at h2
    have e1 := (hD.get hi).und
    rw [hd] at e1
    obtain ⟨cur', T0', c1', c2', _⟩ := hi'.cells hb'
    obtain ⟨_, _, _, _, _, _, _, hnk⟩ := hi'.box b' cs' hb'
    have h3 := h1.of_one
    generalize hv : ac.eval x = v at h3
    cases h3 with
    | nil => simp [cellOf] at h0
    | emp a cap => simp [cellOf] at h0
    | row _ _ b off cap z c hn hcap hz ho2 hc hrr =>
      obtain ⟨hcell, hk⟩ := hc 0 0 x0 h0
      obtain ⟨tA, kA, hsh, hlt, _⟩ := World.shape?_of_cell? hcell
      have hne : b ≠ b' := fun h => hnk _ (h ▸ hk)
      have hov := run_overlaps_box (P := G.P) w t tR e e1 j.size (fun w => run_sizeOf' (hD.get hj)) ⟨b, off, none⟩ ⟨b', off', none⟩ es.length cap n' c' hne tA T0' kA cur'.size hsh (by simp [World.shape?, c1']) (by omega) (by omega) (by simp [World.frozen?, c1']) (by simp [World.frozen?, c1'])
      have hcall := run_callFunc_extern (f := f) hf hname hbn hnx hfe #[.slice (some ⟨b, off, none⟩) es.length cap, .slice (some ⟨b', off', none⟩) n' c'] w
      rw [hov] at hcall
      refine ⟨_, ?_, .raw rfl⟩
      simp only [Result.andThen_ok] at hcall
      have key : (execOp ac.eval o).run G.P w = (callFunc f #[ac.eval x, ac.eval y]).run G.P w := by simp [execOp, ho, resolve, Act.eval, Deferred.ofValue, invoke]
      rw [key, hv, h2.flat, hcall]
end Go.Proofs.Ytinbibeapooghaa.LF
