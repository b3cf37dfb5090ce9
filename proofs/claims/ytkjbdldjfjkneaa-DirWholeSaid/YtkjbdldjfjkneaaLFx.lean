/- Slices whose cells may be written: parts, append, copy, clear; literals; library functions without text. -/
import Derived.Test.YtkjbdldjfjkneaaLFw
import Derived.Lib.AppendZerosOnto
import Derived.Lib.Overlaps
set_option linter.unusedVariables false
set_option linter.unusedSimpArgs false
namespace Go.Proofs.Ytkjbdldjfjkneaa.LF
open Go.RowKit

/-- A bound of a slice expression, where there are three. -/
theorem run_bounds3 {G : Ctx} {w : World} {K : Kept} {T : Nat → TV} {a : Act} {lo hi : Option Operand} {mx : Operand} {k : IntKind} {l h m : Int} {isS : Bool} {len cap : Nat} (hlo : ∀ x, lo = some x → RepT G w K (lev T x) (a.eval x)) (hhi : ∀ x, hi = some x → RepT G w K (lev T x) (a.eval x))
    (hm : a.eval mx = .int k m) (el : bnd T 0 lo = some l) (hs : hi.isSome = true) (eh : bnd T len hi = some h) (h0 : 0 ≤ l) (h1 : l ≤ h) (h2 : h ≤ m) (h3 : m ≤ cap) :
    (Instr.sliceBounds isS len cap (lo.map a.eval) (hi.map a.eval) (some (a.eval mx))).run G.P w = .ok (l.toNat, h.toNat, m.toNat) w := by
  unfold Instr.sliceBounds
  cases hi with
  | none => cases hs
  | some x =>
    obtain ⟨k1, e1⟩ := bnd_spec (hhi x rfl) eh
    have r1 : ∀ c, (Instr.sliceBound (.int k m) cap c).run G.P w = .ok m.toNat w := fun c => run_sliceBound (by omega) (by omega)
    have r2 : ∀ c, (Instr.sliceBound (.int k1 h) m.toNat c).run G.P w = .ok h.toNat w := fun c => run_sliceBound (by omega) (by omega)
    cases lo with
    | none =>
      obtain rfl : (0 : Int) = l := by simpa [bnd] using el
      simp only [Option.map_some, Option.map_none, hm, e1, Sem.run_bind, r1, r2, Result.andThen_ok, Sem.run_pure]
      rfl
    | some y =>
      obtain ⟨k2, e2⟩ := bnd_spec (hlo y rfl) el
      have r3 : ∀ c, (Instr.sliceBound (.int k2 l) h.toNat c).run G.P w = .ok l.toNat w := fun c => run_sliceBound (by omega) (by omega)
      simp only [Option.map_some, hm, e1, e2, Sem.run_bind, r1, r2, r3, Result.andThen_ok, Sem.run_pure]

/-- Where a part begins: a part without room begins where the slice did. -/
def partOff (off l m z : Nat) : Nat := if m = l then off else off + l * z

section
variable {G : Ctx} {D : Tab} (hD : TabOK G.P D) {o : Oper} {T : Nat → TV} {S : LS} {t e : TypeId} {i j : TI}
include hD

theorem LVal.sliceR {x : Operand} {lo hi : Option Operand} {b off n c : Nat} {l h : Nat} (ho : o.op = .slice t x lo hi none)
    (hx : lev T x = .one (rsl b off n c)) (hi' : D.get t = some i) (hd : i.desc = .slice e) (hj : D.get e = some j) (el : bnd T 0 lo = some (l : Int)) (eh : bnd T (n : Nat) hi = some (h : Int)) (h1 : l ≤ h) (h2 : h ≤ c) :
    LVal G o T S (.one (rsl b (partOff off l c j.size) (h - l) (c - l))) :=
  .of_run fun K w ac hi'' hr => by
    have r1 := hr x (by rw [ho]; simp [Op.operands])
    rw [hx] at r1
    have e1 := (hD.get hi').und
    rw [hd] at e1
    have rlo : ∀ x, lo = some x → RepT G w K (lev T x) (ac.eval x) := fun x hx => hr x (by rw [ho, hx]; simp [Op.operands])
    have rhi : ∀ x, hi = some x → RepT G w K (lev T x) (ac.eval x) := fun x hx => hr x (by rw [ho, hx]; simp [Op.operands])
    have hb := run_bounds (isS := true) (len := n) (cap := c) rlo rhi el eh (by omega) (by omega) (by omega)
    simp only [Int.toNat_natCast] at hb
    refine ⟨_, ?_, .raw rfl⟩
    have h3 := sliceAt_slice (w := w) e1 (.slice (some ⟨b, off, none⟩) n c) (lo.map ac.eval) (hi.map ac.eval) none
    simp only [execOp, ho, Sem.run_bind, Option.map_none, r1.flat, h3, Instr.slice, run_underlying e1, Result.andThen_ok, hb, run_sizeOf' (hD.get hj), Sem.run_pure, Option.map_some, add_off, partOff]
    congr 3
    split <;> rfl
theorem LVal.slice3R {x : Operand} {lo hi : Option Operand} {mx : Operand} {b off n c : Nat} {k : IntKind} {l h m : Nat} (ho : o.op = .slice t x lo hi (some mx))
    (hx : lev T x = .one (rsl b off n c)) (hi' : D.get t = some i) (hd : i.desc = .slice e) (hj : D.get e = some j) (el : bnd T 0 lo = some (l : Int)) (hs : hi.isSome = true) (eh : bnd T (n : Nat) hi = some (h : Int)) (em : lev T mx = .one (.v (.int k (m : Int)))) (h1 : l ≤ h) (h2 : h ≤ m) (h3 : m ≤ c) :
    LVal G o T S (.one (rsl b (partOff off l m j.size) (h - l) (m - l))) :=
  .of_run fun K w ac hi'' hr => by
    have r1 := hr x (by rw [ho]; simp [Op.operands])
    have r2 := hr mx (by rw [ho]; simp [Op.operands])
    rw [hx] at r1
    rw [em] at r2
    have e1 := (hD.get hi').und
    rw [hd] at e1
    have rlo : ∀ x, lo = some x → RepT G w K (lev T x) (ac.eval x) := fun x hx => hr x (by rw [ho, hx]; simp [Op.operands])
    have rhi : ∀ x, hi = some x → RepT G w K (lev T x) (ac.eval x) := fun x hx => hr x (by rw [ho, hx]; simp [Op.operands])
    have hb := run_bounds3 (isS := true) (len := n) (cap := c) rlo rhi r2.flat el hs eh (by omega) (by omega) (by omega) (by omega)
    simp only [Int.toNat_natCast] at hb
    refine ⟨_, ?_, .raw rfl⟩
    have h3 := sliceAt_slice (w := w) e1 (.slice (some ⟨b, off, none⟩) n c) (lo.map ac.eval) (hi.map ac.eval) (some (ac.eval mx))
    simp only [execOp, ho, Sem.run_bind, Option.map_some, r1.flat, h3, Instr.slice, run_underlying e1, Result.andThen_ok, hb, run_sizeOf' (hD.get hj), Sem.run_pure, add_off, partOff]
    congr 3
    split <;> rfl

/-- append where there is room: the box is written. -/
theorem LDo.appendRoomR {s x : Operand} {b off n c m : Nat} {cs l : List LV} {xx : LV} (ho : o.op = .call { callee := .builtin .append, args := #[s, x], argTypes := #[t, t] })
    (hs : lev T s = .one (rsl b off n c)) (hx : lev T x = .one xx) (hi : D.get t = some i) (hd : i.desc = .slice e) (hj : D.get e = some j) (hsz : Nat.blt 0 j.size = true)
    (hb : S.box b = some cs) (hl : off + c * j.size ≤ cs.length) (hsrc : SrcL S j.size xx m l) (hroom : n + m ≤ c) :
    LDo G o T S (fun r S' => r = .one (rsl b off (n + m) c) ∧ S' = S.setBox b (splice cs (off + n * j.size) l)) :=
  .of_run fun K w ac hi' hr => by
    have h1 := hr s (by rw [ho]; simp [Op.operands, Call.operands])
    have h2 := hr x (by rw [ho]; simp [Op.operands, Call.operands])
    rw [hs] at h1
    rw [hx] at h2
    have e1 := (hD.get hi).und
    rw [hd] at e1
    have hsz' : 0 < j.size := by simpa [Nat.blt_eq] using hsz
    obtain ⟨ji, q1, q2, q3, q4⟩ := (hD.get hj).info
    obtain ⟨a, c', vs, g1, g2, g3, g4, g5⟩ := hsrc.src hi' hsz' h2.of_one e1
    obtain ⟨cur, T0, c1, c2, _⟩ := hi'.cells hb
    have hfit : off + n * j.size + vs.length ≤ cur.size := by
      have : (n + m) * j.size ≤ c * j.size := Nat.mul_le_mul_right _ hroom
      rw [Nat.add_mul] at this
      rw [c2, g2]; omega
    have hst := run_storeCells_at G.P b (off + n * j.size) T0 vs 0 cur w c1 (by simpa using hfit) (SrcL.one (by rw [g2, g3]) g4)
    simp only [Nat.add_zero] at hst
    have hrun : (Builtin.append_ #[t, t] o.type #[ac.eval s, ac.eval x]).run G.P w = .ok (.slice (some ⟨b, off, none⟩) (n + m) c) (w.setRow b (cur.toList.take (off + n * j.size) ++ vs ++ cur.toList.drop (off + n * j.size + vs.length)).toArray) := by
      have hc := g5.cells
      have hl' := g5.len
      rw [h1.flat]
      simp [Builtin.append_, run_underlying e1, run_sizeOf' (hD.get hj), hl', hroom, hc, Addr.add_lit, hst]
    obtain ⟨k1, k2⟩ := hi'.setBox hb (off := off + n * j.size) (l := l) (by rw [g3, ← g2, ← c2]; exact hfit) (vs := vs) (by rw [g2, g3]) g4 cur T0 c1
    refine ⟨_, _, _, _, _, ?_, .raw rfl, k1, k2, rfl, rfl⟩
    simp [execOp, ho, resolve, invoke, builtin, hrun]

/-- append where there is none: a new box. -/
theorem LDo.appendGrowR {s x : Operand} {n c m : Nat} {l l2 : List LV} {xs xx : LV} (ho : o.op = .call { callee := .builtin .append, args := #[s, x], argTypes := #[t, t] })
    (hs : lev T s = .one xs) (hx : lev T x = .one xx) (hi : D.get t = some i) (hd : i.desc = .slice e) (hj : D.get e = some j) (hsz : Nat.blt 0 j.size = true) (hz : j.zero.cells.toList.all Value.oneCell' = true) (hby : Nat.ble j.bytes 1024 = true)
    (hcap : (∃ a, xs = .v (.slice a n c)) ∨ (xs = .sl .nil [] ∧ c = 0)) (h1 : SrcL S j.size xs n l) (h2 : SrcL S j.size xx m l2) (hg : c < n + m) (hbig : n + m ≤ 100000000) :
    LDo G o T S (fun r S' => ∃ b' c', S.fresh b' ∧ n + m ≤ c' ∧ r = .one (rsl b' 0 (n + m) c') ∧ S' = S.newBox b' (l ++ l2 ++ zrow j (c' - (n + m)))) :=
  .of_run fun K w ac hi' hr => by
    have r1 := hr s (by rw [ho]; simp [Op.operands, Call.operands])
    have r2 := hr x (by rw [ho]; simp [Op.operands, Call.operands])
    rw [hs] at r1
    rw [hx] at r2
    have e1 := (hD.get hi).und
    rw [hd] at e1
    have hsz' : 0 < j.size := by simpa [Nat.blt_eq] using hsz
    have hby' : j.bytes ≤ 1024 := Nat.le_of_ble_eq_true hby
    obtain ⟨ji, q1, q2, q3, q4⟩ := (hD.get hj).info
    obtain ⟨a, c0, vs, g1, g2, g3, g4, g5⟩ := h1.src hi' hsz' r1.of_one e1
    obtain ⟨a', c0', vs', f1, f2, f3, f4, f5⟩ := h2.src hi' hsz' r2.of_one e1
    have hc0 : c0 = c := by
      rcases hcap with ⟨a1, rfl⟩ | ⟨rfl, rfl⟩
      · have := r1.flat
        rw [g1] at this
        injection this
      · have := r1.of_one
        rw [g1] at this
        cases this with
        | nil => rfl
        | row _ _ b off cap z c hn => exact absurd rfl hn
    subst hc0
    have hbytes : (n + m) * j.bytes ≤ 140737488355328 := Nat.le_trans (Nat.mul_le_mul hbig hby') (by decide)
    have hrun := run_append_grow_src (P := G.P) w t t o.type e ji j.zero e1 q1 q4 a n c0 vs (by rw [q2]; rw [g1] at g5; exact g5.cellsD) (ac.eval x) m vs' (by rw [q2]; exact f5) hg (by omega) (by rw [q3]; exact growslice_fits hg hbytes)
    have hge := grownCap_ge w (n + m) c0 e
    have hinv := hi'.drew.newBox ((vs ++ vs').toArray ++ Builtin.zeroCells j.zero.cells (grownCap w (n + m) c0 e - (n + m))) e (l ++ l2 ++ zrow j (grownCap w (n + m) c0 e - (n + m))) (by
        rw [Array.size_append, List.size_toArray, List.length_append, List.length_append, List.length_append, g2, g3, f2, f3, zrow_length, size_zeroCells]) (fun q y u hy hu => by
        have hlv : (vs ++ vs').length = (l ++ l2).length := by rw [List.length_append, List.length_append, g2, g3, f2, f3]
        refine Rep.mono (.drew K w) (append_get_rep (vs := vs ++ vs') (vs2 := (Builtin.zeroCells j.zero.cells (grownCap w (n + m) c0 e - (n + m))).toList) hlv (append_get_rep (by rw [g2, g3]) g4 f4) (fun q y u hy hu => zrow_rep G w K hz _ q y u hy (by simpa using hu)) q y u hy ?_)
        rw [← Array.getElem?_toList, Array.toList_append] at hu
        exact hu)
    have hext : Ext K w K (w.drew.alloc (.cells ((vs ++ vs').toArray ++ Builtin.zeroCells j.zero.cells (grownCap w (n + m) c0 e - (n + m))) e)) := (Ext.drew K w).trans (Ext.alloc hi'.drew _)
    refine ⟨_, _, _, _, _, ?_, .raw rfl, hinv, hext, w.heap.size, grownCap w (n + m) c0 e, hi'.fresh, hge, rfl, rfl⟩
    rw [← g1] at hrun
    simp [execOp, ho, resolve, invoke, builtin, hrun]

/-- append of zeros onto a part, where there is no room. -/
theorem LDo.appendZerosR {s x : Operand} {b off n c m : Nat} {k : IntKind} {l : List LV} {tn : TypeId} {in' : TI} {kn : IntKind} (ho : o.op = .call { callee := .builtin .append, args := #[s, x], argTypes := #[t, tn] })
    (hs : lev T s = .one (rsl b off n c)) (hx : lev T x = .one (.v (.int k (m : Int)))) (hi : D.get t = some i) (hd : i.desc = .slice e) (hj : D.get e = some j) (hn : D.get tn = some in') (hdn : in'.desc = .int kn) (hsz : Nat.blt 0 j.size = true) (hz : j.zero.cells.toList.all Value.oneCell' = true) (hby : Nat.ble j.bytes 1024 = true)
    (h1 : SrcL S j.size (rsl b off n c) n l) (h0 : 0 < m) (hg : c < n + m) (hbig : n + m ≤ 100000000) :
    LDo G o T S (fun r S' => ∃ b' c', S.fresh b' ∧ n + m ≤ c' ∧ r = .one (rsl b' 0 (n + m) c') ∧ S' = S.newBox b' (l ++ zrow j m ++ zrow j (c' - (n + m)))) :=
  .of_run fun K w ac hi' hr => by
    have r1 := hr s (by rw [ho]; simp [Op.operands, Call.operands])
    have r2 := hr x (by rw [ho]; simp [Op.operands, Call.operands])
    rw [hs] at r1
    rw [hx] at r2
    have e1 := (hD.get hi).und
    rw [hd] at e1
    have en := (hD.get hn).und
    rw [hdn] at en
    have hsz' : 0 < j.size := by simpa [Nat.blt_eq] using hsz
    have hby' : j.bytes ≤ 1024 := Nat.le_of_ble_eq_true hby
    obtain ⟨ji, q1, q2, q3, q4⟩ := (hD.get hj).info
    obtain ⟨a, c0, vs, g1, g2, g3, g4, g5⟩ := h1.src hi' hsz' r1.of_one e1
    rw [r1.flat] at g1
    injection g1 with ea _ ec
    subst ea; subst ec
    have hbytes : (n + m) * j.bytes ≤ 140737488355328 := Nat.le_trans (Nat.mul_le_mul hbig hby') (by decide)
    have hmb : m * j.bytes ≤ (n + m) * j.bytes := Nat.mul_le_mul_right _ (by omega)
    have hrun := Lib.run_append_grow_zeros (P := G.P) w t tn o.type e ji j.zero k kn e1 en q1 q4 (some ⟨b, off, none⟩) n c vs (by rw [q2]; rw [r1.flat] at g5; exact g5.cellsD) m h0 (by rw [q2]; exact hsz') hg (by omega) (by rw [q3]; omega) (by rw [q3]; exact growslice_fits hg hbytes)
    have hge := grownCap_ge w (n + m) c e
    have hinv := hi'.drew.newBox (vs.toArray ++ Builtin.zeroCells j.zero.cells m ++ Builtin.zeroCells j.zero.cells (grownCap w (n + m) c e - (n + m))) e (l ++ zrow j m ++ zrow j (grownCap w (n + m) c e - (n + m))) (by
        rw [Array.size_append, Array.size_append, List.size_toArray, List.length_append, List.length_append, g2, g3, zrow_length, zrow_length, size_zeroCells, size_zeroCells]) (fun q y u hy hu => by
        have hlv : (vs ++ (Builtin.zeroCells j.zero.cells m).toList).length = (l ++ zrow j m).length := by rw [List.length_append, List.length_append, g2, g3, zrow_length, Array.length_toList, size_zeroCells]
        refine Rep.mono (.drew K w) (append_get_rep (vs := vs ++ (Builtin.zeroCells j.zero.cells m).toList) (vs2 := (Builtin.zeroCells j.zero.cells (grownCap w (n + m) c e - (n + m))).toList) hlv (append_get_rep (by rw [g2, g3]) g4 (fun q y u hy hu => zrow_rep G w K hz _ q y u hy (by simpa using hu))) (fun q y u hy hu => zrow_rep G w K hz _ q y u hy (by simpa using hu)) q y u hy ?_)
        rw [← Array.getElem?_toList, Array.toList_append, Array.toList_append] at hu
        exact hu)
    have hext : Ext K w K (w.drew.alloc (.cells (vs.toArray ++ Builtin.zeroCells j.zero.cells m ++ Builtin.zeroCells j.zero.cells (grownCap w (n + m) c e - (n + m))) e)) := (Ext.drew K w).trans (Ext.alloc hi'.drew _)
    refine ⟨_, _, _, _, _, ?_, .raw rfl, hinv, hext, w.heap.size, grownCap w (n + m) c e, hi'.fresh, hge, rfl, rfl⟩
    simp [execOp, ho, resolve, invoke, builtin, r1.flat, r2.flat, hrun]

/-- copy: all is read before anything is written. -/
theorem LDo.copyR {s x : Operand} {b off n c m : Nat} {cs l : List LV} {xx : LV} {t' : TypeId} (ho : o.op = .call { callee := .builtin .copy, args := #[s, x], argTypes := #[t, t'] })
    (hs : lev T s = .one (rsl b off n c)) (hx : lev T x = .one xx) (hi : D.get t = some i) (hd : i.desc = .slice e) (hj : D.get e = some j) (hsz : Nat.blt 0 j.size = true)
    (hb : S.box b = some cs) (hl : off + n * j.size ≤ cs.length) (hsrc : SrcL S j.size xx m l) :
    LDo G o T S (fun r S' => r = .one (.v (.int .i64 (Nat.min m n : Nat))) ∧ S' = S.setBox b (splice cs off (l.take (Nat.min m n * j.size)))) :=
  .of_run fun K w ac hi' hr => by
    have h1 := hr s (by rw [ho]; simp [Op.operands, Call.operands])
    have h2 := hr x (by rw [ho]; simp [Op.operands, Call.operands])
    rw [hs] at h1
    rw [hx] at h2
    have e1 := (hD.get hi).und
    rw [hd] at e1
    have hsz' : 0 < j.size := by simpa [Nat.blt_eq] using hsz
    obtain ⟨a, c', vs, g1, g2, g3, g4, g5, g6⟩ := hsrc.run hi' hsz' h2.of_one
    obtain ⟨cur, T0, c1, c2, _⟩ := hi'.cells hb
    have hmn : Nat.min m n * j.size ≤ m * j.size := Nat.mul_le_mul_right _ (Nat.min_le_left m n)
    have hmn2 : Nat.min m n * j.size ≤ n * j.size := Nat.mul_le_mul_right _ (Nat.min_le_right m n)
    have hvl : (vs.take (Nat.min m n * j.size)).length = Nat.min m n * j.size := by rw [List.length_take]; omega
    have hll : (l.take (Nat.min m n * j.size)).length = Nat.min m n * j.size := by rw [List.length_take]; omega
    have hrep : ∀ (q : Nat) y u, (l.take (Nat.min m n * j.size))[q]? = some y → (vs.take (Nat.min m n * j.size))[q]? = some u → Rep G w K y u := fun q y u hy hu => by
      have hq := (List.getElem?_eq_some_iff.1 hy).1
      rw [hll] at hq
      rw [List.getElem?_take, if_pos hq] at hy hu
      exact g4 q y u hy hu
    have hfit : off + (vs.take (Nat.min m n * j.size)).length ≤ cur.size := by rw [hvl, c2]; omega
    have hst := run_storeCells_at G.P b off T0 (vs.take (Nat.min m n * j.size)) 0 cur w c1 (by simpa using hfit) (SrcL.one (by rw [hvl, hll]) hrep)
    simp only [Nat.add_zero] at hst
    have hfc : (Builtin.firstCells j.size (Nat.min m n) (.slice a m c')).run G.P w = .ok (vs.take (Nat.min m n * j.size)).toArray w := by
      cases a with
      | some a =>
        refine run_firstCells_some w j.size (Nat.min m n) a m c' _ hvl fun q u hu => ?_
        have hq := (List.getElem?_eq_some_iff.1 hu).1
        rw [hvl] at hq
        rw [List.getElem?_take, if_pos hq] at hu
        exact g6 a rfl q u hu
      | none =>
        obtain rfl : m = 0 := by
          rcases Nat.eq_zero_or_pos m with h | h
          · exact h
          · simp at g5; omega
        have hm0 : Nat.min 0 n = 0 := Nat.zero_min n
        rw [hm0, Nat.zero_mul, List.take_zero]
        exact run_firstCells_none w j.size 0 0 c'
    have hrun : (Builtin.copy_ #[t, t'] o.type #[ac.eval s, ac.eval x]).run G.P w = .ok (.int .i64 (Nat.min m n : Nat)) (w.setRow b (cur.toList.take off ++ (vs.take (Nat.min m n * j.size)) ++ cur.toList.drop (off + (vs.take (Nat.min m n * j.size)).length)).toArray) := by
      have hlen : (Builtin.lenOf (.slice a m c')).run G.P w = .ok m w := rfl
      rw [h1.flat, g1]
      simp only [Builtin.copy_, List.getElem?_toArray, List.getElem?_cons_zero, List.getElem?_cons_succ, Sem.run_bind, run_underlying e1, Result.andThen_ok, hlen, run_sizeOf' (hD.get hj), hfc, hst, Sem.run_pure, goInt]
    obtain ⟨k1, k2⟩ := hi'.setBox hb (off := off) (l := l.take (Nat.min m n * j.size)) (by rw [hll, ← c2, ← hvl]; exact hfit) (vs := vs.take (Nat.min m n * j.size)) (by rw [hvl, hll]) hrep cur T0 c1
    refine ⟨_, _, _, _, _, ?_, .raw rfl, k1, k2, rfl, rfl⟩
    simp [execOp, ho, resolve, invoke, builtin, hrun]

/-- clear. -/
theorem LDo.clearR {x : Operand} {b off n c : Nat} {cs : List LV} (ho : o.op = .call { callee := .builtin .clear, args := #[x], argTypes := #[t] })
    (hx : lev T x = .one (rsl b off n c)) (hi : D.get t = some i) (hd : i.desc = .slice e) (hj : D.get e = some j) (hz : j.zero.cells.toList.all Value.oneCell' = true) (hzs : j.zero.cells.size = j.size)
    (hb : S.box b = some cs) (hl : off + n * j.size ≤ cs.length) :
    LDo G o T S (fun r S' => r = .tup [] ∧ S' = S.setBox b (splice cs off (zrow j n))) :=
  .of_run fun K w ac hi' hr => by
    have h1 := hr x (by rw [ho]; simp [Op.operands, Call.operands])
    rw [hx] at h1
    have e1 := (hD.get hi).und
    rw [hd] at e1
    obtain ⟨cur, T0, c1, c2, _⟩ := hi'.cells hb
    have hzl : (Builtin.zeroCells j.zero.cells n).toList.length = n * j.size := by rw [Array.length_toList, size_zeroCells, hzs]
    have hll : (zrow j n).length = n * j.size := by rw [zrow_length, hzs]
    have hrep : ∀ (q : Nat) y u, (zrow j n)[q]? = some y → (Builtin.zeroCells j.zero.cells n).toList[q]? = some u → Rep G w K y u := fun q y u hy hu => zrow_rep G w K hz n q y u hy (by simpa using hu)
    have hfit : off + (Builtin.zeroCells j.zero.cells n).toList.length ≤ cur.size := by rw [hzl, c2]; exact hl
    have hst := run_storeCells_at G.P b off T0 (Builtin.zeroCells j.zero.cells n).toList 0 cur w c1 (by simpa using hfit) (SrcL.one (by rw [hzl, hll]) hrep)
    simp only [Nat.add_zero] at hst
    obtain ⟨k1, k2⟩ := hi'.setBox hb (off := off) (l := zrow j n) (by rw [hll]; exact hl) (vs := (Builtin.zeroCells j.zero.cells n).toList) (by rw [hzl, hll]) hrep cur T0 c1
    have hrun : (Builtin.clear_ #[t] o.type #[ac.eval x]).run G.P w = .ok (.tuple #[]) (w.setRow b (cur.toList.take off ++ (Builtin.zeroCells j.zero.cells n).toList ++ cur.toList.drop (off + (Builtin.zeroCells j.zero.cells n).toList.length)).toArray) := by
      rw [h1.flat]
      cases n with
      | zero =>
        have e0 : (Builtin.zeroCells j.zero.cells 0).toList = [] := List.length_eq_zero_iff.1 (by rw [hzl]; simp)
        rw [e0, List.append_nil, List.length_nil, Nat.add_zero, List.take_append_drop, Array.toArray_toList, setRow_self w b cur T0 (0, 0) c1]
        simp [Builtin.clear_, run_underlying e1]
      | succ n =>
        simp [Builtin.clear_, run_underlying e1, run_zero' (hD.get hj), hst]
    refine ⟨.tup [], _, _, _, _, ?_, .tup [] #[] rfl (by simp), k1, k2, rfl, rfl⟩
    simp [execOp, ho, resolve, invoke, builtin, hrun]

/-- A slice literal whose cells may be written. -/
theorem LDo.buildSliceR {n : Nat} {ps : List (Nat × Operand)} {lp : List (Nat × List LV)} {l : List LV} (ho : o.op = .buildSlice t n ps.toArray)
    (hp : lparts T ps = some lp) (hi : D.get t = some i) (hd : i.desc = .slice e) (hj : D.get e = some j) (hsz : Nat.blt 0 j.size = true) (hzs : j.zero.cells.size = j.size) (hz : j.zero.cells.toList.all Value.oneCell' = true) (hbig : Nat.ble (n * j.size) 16777216 = true)
    (h : lfill (fun k => some (k * j.size, j.size)) (sliceZero j n) lp = some l) (hl : l.length = n * j.size) : LDo G o T S (fun r S' => ∃ b, S.fresh b ∧ r = .one (rsl b 0 n n) ∧ S' = S.newBox b l) :=
  .of_run fun K w ac hi' hr => by
    have hsz' : 0 < j.size := by simpa [Nat.blt_eq] using hsz
    obtain ⟨c, h1, h2, h3⟩ := run_buildSlice hD ho hp hi hd hj hsz hzs hz hbig h hr
    have hinv := hi'.newBox c e l (by rw [h2, hl]) (fun q y u hy hu => by
      have hq := (List.getElem?_eq_some_iff.1 hy).1
      rw [hl] at hq
      have hi2 : q / j.size < n := (Nat.div_lt_iff_lt_mul hsz').2 hq
      have hcell : cellOf (chunks j.size l n) (q / j.size) (q % j.size) = some y := by
        unfold cellOf
        rw [chunks_get _ _ _ _ hi2]
        simp only [Option.bind_some]
        rw [List.getElem?_take, if_pos (Nat.mod_lt _ hsz'), List.getElem?_drop, Nat.mul_comm, Nat.div_add_mod]
        exact hy
      obtain ⟨v, e1, e2⟩ := h3.rep _ _ y hcell
      rw [Nat.mul_comm, Nat.div_add_mod, Array.getElem?_toList, hu] at e1
      obtain rfl : u = v := by simpa using e1
      exact e2)
    exact ⟨_, _, _, _, _, h1, .raw rfl, hinv, .alloc hi' _, w.heap.size, hi'.fresh, rfl, rfl⟩

/-- Two boxes lie apart. -/
theorem LVal.overlapsR {x y : Operand} {f : FuncId} {fn : Func} {ts : Array TypeId} {b off n c b' off' n' c' : Nat} {cs cs' : List LV} {tR : TypeId} (ho : o.op = .call { callee := .value (.func f), args := #[x, y], argTypes := ts })
    (hf : G.P.funcs[f]? = some fn) (hname : (fn.name == "runtime.NumGoroutine") = false) (hbn : fn.body.isNone = true) (hnx : Extern.findNext fn = none) (hfe : Extern.find fn = some (Extern.SlicesOverlaps.overlaps #[t, t] #[tR]))
    (hx : lev T x = .one (rsl b off n c)) (hy : lev T y = .one (rsl b' off' n' c')) (hi : D.get t = some i) (hd : i.desc = .slice e) (hj : D.get e = some j) (hb : S.box b = some cs) (hb' : S.box b' = some cs') (hne : b ≠ b') (hl : cs'.length ≠ 0) :
    LVal G o T S (.one (.v (.bool false))) :=
  .of_run fun K w ac hi' hr => by
    have h1 := hr x (by rw [ho]; simp [Op.operands, Call.operands])
    have h2 := hr y (by rw [ho]; simp [Op.operands, Call.operands])
    rw [hx] at h1
    rw [hy] at h2
    have e1 := (hD.get hi).und
    rw [hd] at e1
    obtain ⟨cur, T0, c1, c2, _⟩ := hi'.cells hb
    obtain ⟨cur', T0', c1', c2', _⟩ := hi'.cells hb'
    have hov := Lib.run_overlaps_apart (P := G.P) w t tR e e1 j.size (fun w => run_sizeOf' (hD.get hj)) ⟨b, off, none⟩ ⟨b', off', none⟩ n c n' c' hne T0 T0' cur.size cur'.size (by simp [World.shape?, c1]) (by simp [World.shape?, c1']) (by omega) (by simp [World.frozen?, c1]) (by simp [World.frozen?, c1])
    have hcall := run_callFunc_extern (f := f) hf hname hbn hnx hfe #[.slice (some ⟨b, off, none⟩) n c, .slice (some ⟨b', off', none⟩) n' c'] w
    rw [hov] at hcall
    refine ⟨_, ?_, .raw rfl⟩
    simp only [Result.andThen_ok] at hcall
    have key : (execOp ac.eval o).run G.P w = (callFunc f #[ac.eval x, ac.eval y]).run G.P w := by simp [execOp, ho, resolve, Act.eval, Deferred.ofValue, invoke]
    rw [key, h1.flat, h2.flat, hcall]
end
end Go.Proofs.Ytkjbdldjfjkneaa.LF
