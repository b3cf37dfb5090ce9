/- append of a string to bytes; joins of strings. -/
import Derived.Test.YtkjbdldjfjkneaaLFy
set_option linter.unusedVariables false
set_option linter.unusedSimpArgs false
namespace Go.Proofs.Ytkjbdldjfjkneaa.LF
open Go.RowKit
set_option linter.unusedVariables false

theorem Flat.ofBytes (G : Ctx) (w : World) (K : Kept) (s : ByteArray) : Flat G w K 1 (s.data.toList.map byL) (byteCells s) := by
  refine ⟨by rw [byteCells_length, List.length_map, Array.length_toList, Nat.mul_one]; rfl, fun e he => ?_, fun i j x hx => ?_⟩
  · obtain ⟨c, _, rfl⟩ := List.mem_map.1 he; rfl
  · unfold cellOf at hx
    rw [List.getElem?_map] at hx
    cases hq : s.data.toList[i]? with
    | none => rw [hq] at hx; simp at hx
    | some c =>
      rw [hq] at hx
      simp only [Option.map_some, Option.bind_some] at hx
      cases j with
      | succ j => simp [byL] at hx
      | zero =>
        obtain rfl : LV.v (.int .u8 (c.toNat : Int)) = x := by simpa [byL] using hx
        exact ⟨_, by rw [Nat.mul_one, Nat.add_zero]; unfold byteCells; rw [List.getElem?_map, hq]; rfl, .raw _ rfl⟩

/-- append of a string onto bytes that are nil or the call's own. -/
theorem LDo.appendStr {G : Ctx} {D : Tab} (hD : TabOK G.P D) {o : Oper} {T : Nat → TV} {S : LS} {t tx e : TypeId} {s x : Operand} {o1 : Own} {es : List (List LV)} {str : ByteArray} {i j ix : TI}
    (ho : o.op = .call { callee := .builtin .append, args := #[s, x], argTypes := #[t, tx] }) (hs : lev T s = .one (.sl o1 es)) (hx : lev T x = .one (.v (.string str))) (hi : D.get t = some i) (hd : i.desc = .slice e) (hj : D.get e = some j) (hix : D.get tx = some ix) (hdx : ix.desc = .string)
    (hsz : Nat.beq j.size 1 = true) (hzs : j.zero.cells.size = j.size) (hby : Nat.ble j.bytes 1024 = true) {n : Nat} (hn : es.length = n) (hown : Owned S e n o1) (hl : n + str.size ≤ 100000000) :
    LDo G o T S (fun r S' => ∃ o', r = .one (.sl o' (es ++ str.data.toList.map byL)) ∧ Owned S' e (n + str.size) o' ∧ S.upto o1 S' ∧ ∀ b, o' = .own b → o1 = .own b ∨ S.fresh b) := by
  subst hn
  refine .of_run fun K w ac hi' hr => ?_
  have h1 := hr s (by rw [ho]; simp [Op.operands, Call.operands])
  have h2 := hr x (by rw [ho]; simp [Op.operands, Call.operands])
  rw [hs] at h1
  rw [hx] at h2
  have e1 := (hD.get hi).und
  rw [hd] at e1
  have ex := (hD.get hix).und
  rw [hdx] at ex
  have tj := hD.get hj
  have hsz1 : j.size = 1 := Nat.eq_of_beq_eq_true hsz
  have hsz' : 0 < j.size := by omega
  obtain ⟨ji, q1, q2, q3, q4⟩ := tj.info
  have hze : j.size = G.P.cellsOf e := (cellsOf' tj).symm
  have r1 := h1.of_one
  have hxv := h2.flat
  have hbytes : (es.length + str.size) * j.bytes ≤ 140737488355328 := Nat.le_trans (Nat.mul_le_mul hl (Nat.le_of_ble_eq_true hby)) (by decide)
  have hex : ∀ v w', (Builtin.append_ #[t, tx] o.type #[ac.eval s, ac.eval x]).run G.P w = .ok v w' → (execOp ac.eval o).run G.P w = .ok (.value v) w' := fun v w' h => by
    simp [execOp, ho, resolve, invoke, builtin, h]
  have hlen2 : (str.data.toList.map byL).length = str.size := by rw [List.length_map, Array.length_toList]; rfl
  have f3 : Flat G w K j.size (str.data.toList.map byL) (byteCells str) := by rw [hsz1]; exact Flat.ofBytes G w K str
  have src : Src G.P ji.size tx (ac.eval x) str.size (byteCells str) w := by rw [hxv, q2, hsz1]; exact Src.ofString w ex str
  have hzl : ∀ n, (Builtin.zeroCells j.zero.cells n).size = n * j.size := fun n => by rw [size_zeroCells, hzs]
  have hmx : es.length + str.size ≤ maxLen := by unfold maxLen; omega
  cases o1 with
  | sh => exact hown.elim
  | nil =>
    have hes : es = [] := List.length_eq_zero_iff.1 hown
    subst hes
    have hsv : ac.eval s = .slice none 0 0 := by
      generalize ac.eval s = v at r1
      cases r1 with
      | nil => rfl
      | row _ _ _ _ _ _ _ hn => exact absurd rfl hn
    simp only [List.length_nil, Nat.zero_add] at hbytes hl hmx
    by_cases hpos : str.size = 0
    · have hdl : str.data.toList = [] := List.length_eq_zero_iff.1 (by rw [Array.length_toList]; exact hpos)
      have hrun : (Builtin.append_ #[t, tx] o.type #[.slice none 0 0, ac.eval x]).run G.P w = .ok (.slice none 0 0) w := by
        have hc := src.cells
        have hl' := src.len
        rw [hpos] at hc hl'
        simp [Builtin.append_, run_underlying e1, run_underlying ex, run_sizeOf' tj, hl', q2 ▸ hc]
      refine ⟨_, _, S, K, w, hex _ _ (by rw [hsv]; exact hrun), .one .nil, hi', .refl _ _, .nil, by rw [hdl]; rfl, ?_, ⟨fun _ _ h => h, fun _ _ _ h => h, fun _ _ h => h, Nat.le_refl _⟩, fun b hb => by cases hb⟩
      simp [Owned, hpos]
    · have hrun := run_append_grow_src (P := G.P) w t tx o.type e ji j.zero e1 q1 q4 none 0 0 [] (by simp [Builtin.firstCells, loadCells, loadCellsFrom]) (ac.eval x) str.size (byteCells str) src (by omega) (by omega) (by
        rw [q3]; exact growslice_fits (by omega) (by simpa using hbytes))
      simp only [Nat.zero_add, List.nil_append] at hrun
      rw [← hsv] at hrun
      have hge := grownCap_ge w str.size 0 e
      have hcm := grownCap_le_maxLen w str.size 0 e hmx
      obtain ⟨g1, g2, g3⟩ := hi'.drew.newRow (e := e) (z := j.size) (cap := grownCap w str.size 0 e) (f3.mono (.drew K w)) hze ((byteCells str).toArray ++ Builtin.zeroCells j.zero.cells (grownCap w str.size 0 e - str.size)) (by
          rw [Array.toList_append, ← f3.len]; exact List.take_left) (by
          rw [Array.size_append, hzl, List.size_toArray, f3.len, hlen2, ← Nat.add_mul]; congr 1; omega) (by rw [hlen2]; exact hge) hcm
      rw [hlen2] at g1 g2 g3
      refine ⟨_, _, _, _, _, hex _ _ hrun, .one g3, g1, (Ext.drew K w).trans g2, .own w.heap.size, rfl, ?_, LS.fresh_newRow hi'.fresh e _ _, fun b hb => .inr ?_⟩
      · simp only [Owned, List.length_nil, Nat.zero_add]; exact row_new S _ e _
      · obtain rfl : w.heap.size = b := by simpa using hb
        exact hi'.fresh
  | own b =>
    obtain ⟨p1, p2, p3, cur, p4, p5⟩ := hi'.row b e _ hown
    obtain ⟨cap, vs, g1, g2, g3, g4, g5, g6⟩ := r1.ownRow hsz' hze p4
    have hnl : (byteCells str).length = str.size * j.size := by rw [byteCells_length, hsz1, Nat.mul_one]
    by_cases hroom : es.length + str.size ≤ cap
    · have hfit : es.length * j.size + (byteCells str).length ≤ cur.size := by rw [hnl, g5, ← Nat.add_mul]; exact Nat.mul_le_mul_right _ hroom
      have hst := run_storeCells_at G.P b (es.length * j.size) e (byteCells str) 0 cur w p4 (by simpa using hfit) src.one
      simp only [Nat.add_zero] at hst
      have hrun : (Builtin.append_ #[t, tx] o.type #[ac.eval s, ac.eval x]).run G.P w = .ok (.slice (some ⟨b, 0, none⟩) (es.length + str.size) cap) (w.setRow b (cur.toList.take (es.length * j.size) ++ byteCells str ++ cur.toList.drop (es.length * j.size + (byteCells str).length)).toArray) := by
        have hc := src.cells
        have hl' := src.len
        rw [q2] at hc
        rw [g1]
        simp [Builtin.append_, run_underlying e1, run_underlying ex, run_sizeOf' tj, hl', hroom, hc, Addr.add_lit, hst]
      obtain ⟨k1, k2, k3⟩ := hi'.growRow hown g3 f3 hze g4 cur p4 g5 (by rw [hlen2]; exact hroom) g6 _ rfl
      rw [List.length_append] at k3
      rw [hlen2] at k1 k2 k3
      exact ⟨_, _, _, _, _, hex _ _ hrun, .one k3, k1, k2, .own b, rfl, by simp only [Owned, LS.setRow]; simp, ⟨fun _ _ h => h, fun c x hc hx => by
        simp only [LS.setRow]
        rcases beq_cases c b (some (e, es.length + str.size)) (S.row c) with ⟨rfl, _⟩ | ⟨_, e2⟩
        · exact absurd rfl hc
        · rw [e2]; exact hx, fun _ _ h => h, Nat.le_refl _⟩, fun b' hb' => .inl hb'⟩
    · have hold : (Builtin.firstCells ji.size es.length (.slice (some ⟨b, 0, none⟩) es.length cap)).run G.P w.drew = .ok vs.toArray w.drew :=
        run_firstCells_some w.drew ji.size es.length ⟨b, 0, none⟩ es.length cap vs (by rw [q2]; exact g3.len) (fun q u hq => by rw [add_off]; simpa using (g4 q u hq).1)
      have hrun := run_append_grow_src (P := G.P) w t tx o.type e ji j.zero e1 q1 q4 (some ⟨b, 0, none⟩) es.length cap vs hold (ac.eval x) str.size (byteCells str) src (by omega) (by omega) (by
        rw [q3]; exact growslice_fits (by omega) hbytes)
      rw [← g1] at hrun
      have hge := grownCap_ge w (es.length + str.size) cap e
      have hcm := grownCap_le_maxLen w (es.length + str.size) cap e hmx
      have hlen : (es ++ str.data.toList.map byL).length = es.length + str.size := by rw [List.length_append, hlen2]
      obtain ⟨k1, k2, k3⟩ := hi'.drew.newRow (e := e) (z := j.size) (cap := grownCap w (es.length + str.size) cap e) ((g3.append f3).mono (.drew K w)) hze ((vs ++ byteCells str).toArray ++ Builtin.zeroCells j.zero.cells (grownCap w (es.length + str.size) cap e - (es.length + str.size))) (by
          rw [Array.toList_append, ← (g3.append f3).len]; exact List.take_left) (by
          rw [Array.size_append, hzl, List.size_toArray, List.length_append, hnl, g3.len, ← Nat.add_mul, ← Nat.add_mul]; congr 1; omega) (by rw [hlen]; exact hge) hcm
      rw [hlen] at k1 k2 k3
      refine ⟨_, _, _, _, _, hex _ _ hrun, .one k3, k1, (Ext.drew K w).trans k2, .own w.heap.size, rfl, ?_, LS.fresh_newRow hi'.fresh e _ _, fun b hb => .inr ?_⟩
      · simp only [Owned]; exact row_new S _ e _
      · obtain rfl : w.heap.size = b := by simpa using hb
        exact hi'.fresh

theorem LVal.shrI {G : Ctx} {o : Oper} {T : Nat → TV} {S : LS} {t u : TypeId} {x y : Operand} {k' : IntKind} {a b : Int} (ho : o.op = .binOp .shr t x y u)
    (hx : lev T x = .one (.v (.int .i64 a))) (hy : lev T y = .one (.v (.int k' b))) (h : 0 ≤ b ∧ b ≤ 64) : LVal G o T S (.one (.v (.int .i64 (a / 2 ^ b.toNat)))) :=
  .of_run fun K w ac hi hr => by
    have h1 := hr x (by rw [ho]; simp [Op.operands])
    have h2 := hr y (by rw [ho]; simp [Op.operands])
    rw [hx] at h1
    rw [hy] at h2
    refine ⟨.int .i64 (a / 2 ^ b.toNat), ?_, .raw rfl⟩
    have hb : IntKind.i64.bits = 64 := rfl
    simp only [execOp, ho, h1.flat, h2.flat, Sem.run_bind, eqGuard_flat (by simp : ∀ xs, Value.int .i64 a ≠ .agg xs) (by simp), Result.andThen_ok, binOp_shr, shift_shr .i64 k' a b h.1 (by omega), Sem.run_pure]

end Go.Proofs.Ytkjbdldjfjkneaa.LF
