/- Walks: make of zero values, as a value. -/
import Derived.Test.YtndcdmmmfplbbaaLSl
import Derived.Laws.MakeOwn
set_option linter.unusedVariables false
set_option linter.unusedSimpArgs false
namespace Go.Proofs.Ytndcdmmmfplbbaa.LF
open Go.RowKit Go.Deep
/-- make of a number of zero values whose cells stay. -/
theorem LVal.makeZeros {G : Ctx} {D : Tab} (hD : TabOK G.P D) {o : Oper} {T : Nat → TV} {S : LS} {t e : TypeId} {n : Nat} {x y : Operand} {kl kc : IntKind} {i j : TI} (ho : o.op = .makeSlice t x y)
    (hx : lev T x = .one (.v (.int kl (n : Int)))) (hy : lev T y = .one (.v (.int kc (n : Int)))) (hi : D.get t = some i) (hd : i.desc = .slice e) (hj : D.get e = some j) (hsz : Nat.blt 0 j.size = true) (hzs : j.zero.cells.size = j.size) (hz : j.zero.cells.toList.all Value.oneCell' = true) (hn : n ≤ 100000) (hb : Nat.ble j.bytes 100000 = true) :
    LVal G o T S (.one (.sl .sh (chunks j.size (sliceZero j n) n))) := by
  intro K w ac hi' hr
  have g1 := hr x (by rw [ho]; simp [Op.operands])
  have g2 := hr y (by rw [ho]; simp [Op.operands])
  rw [hx] at g1
  rw [hy] at g2
  have e1 := (hD.get hi).und
  rw [hd] at e1
  have hsz' : 0 < j.size := by simpa [Nat.blt_eq] using hsz
  obtain ⟨ji, q1, q2, q3, q4⟩ := (hD.get hj).info
  have hb' : j.bytes * n ≤ 100000 * 100000 := Nat.mul_le_mul (Nat.le_of_ble_eq_true hb) hn
  have hmk := run_make (P := G.P) w t e ji j.zero e1 q1 (by first | exact q2 | exact q3 | exact q4) kl kc n n (by omega) (Int.le_refl _) (by
    have : ((j.bytes * n : Nat) : Int) ≤ 281474976710656 := by omega
    rw [Int.natCast_mul] at this
    first | (rw [q4]; exact this) | (rw [q3]; exact this) | (rw [q2]; exact this)) (by omega)
  have hrun : (execOp ac.eval o).run G.P w = .ok (.value (.slice (some ⟨w.heap.size, 0, none⟩) n n)) (w.alloc (.cells (madeCells j.zero.cells (n * j.size)) e)) := by
    have hs : ji.size = j.size := by first | exact q3 | exact q2 | exact q4
    simp only [execOp, ho, g1.flat, g2.flat, Sem.run_bind, hmk, Result.andThen_ok, Sem.run_pure, Int.toNat_natCast, hs]
  have h3 : Flat G w K j.size (chunks j.size (sliceZero j n) n) (madeCells j.zero.cells (n * j.size)).toList := Flat.ofCells (by simp [sliceZero]) (by simp [sliceZero, size_madeCells]) (fun q x v hq hv => by
      have hlt := (List.getElem?_eq_some_iff.1 hq).1
      simp only [sliceZero, List.length_map, List.length_range] at hlt
      have hm : q % j.size < j.zero.cells.size := by rw [hzs]; exact Nat.mod_lt _ hsz'
      rw [Array.getElem?_toList] at hv
      unfold madeCells at hv
      rw [Array.getElem?_map, Array.getElem?_range, if_pos hlt] at hv
      simp only [Option.map_some, Option.some.injEq] at hv
      rw [hzs, getElem!_pos j.zero.cells (q % j.size) hm] at hv
      unfold sliceZero at hq
      rw [List.getElem?_map, List.getElem?_range hlt] at hq
      simp only [Option.map_some, Option.some.injEq] at hq
      have hl : (lzero j)[q % j.size]? = some x := by
        rw [List.getD_eq_getElem?_getD, List.getElem?_eq_getElem (by simp [lzero]; omega)] at hq
        rw [List.getElem?_eq_getElem (by simp [lzero]; omega)]
        simpa using hq
      exact lzero_rep G w K hz _ x v hl (by rw [Array.getElem?_eq_getElem hm, hv]))
  have hz' : j.size = G.P.cellsOf e := (cellsOf' (hD.get hj)).symm
  have hn' : n ≤ maxLen := by unfold maxLen; omega
  obtain ⟨k1, k2, k3⟩ := hi'.newRow (cap := n) h3 hz' (madeCells j.zero.cells (n * j.size)) (by rw [← h3.len]; exact List.take_length) (by rw [size_madeCells]) (by rw [chunks_length]; exact Nat.le_refl _) hn'
  unfold Oper.wp
  rw [hrun]
  rw [chunks_length] at k1 k2 k3
  exact ⟨_, _, rfl, .one k3.share, k1.forget (LS.le.newRow (LS.le.refl _) hi'.fresh _ _) hi'.wf (fun b x hb => (hi'.row b x.1 x.2 hb).2.2.1), k2⟩
end Go.Proofs.Ytndcdmmmfplbbaa.LF
