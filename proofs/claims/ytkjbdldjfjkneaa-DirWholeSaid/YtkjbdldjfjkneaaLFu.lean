/- Rows of bytes; the smaller of two numbers. -/
import Derived.Test.YtkjbdldjfjkneaaLFt
import Derived.Lib.ConvBytes
set_option linter.unusedVariables false
set_option linter.unusedSimpArgs false
namespace Go.Proofs.Ytkjbdldjfjkneaa.LF
open Go.RowKit

def byL (c : UInt8) : List LV := [.v (.int .u8 (c.toNat : Int))]
theorem byL_len (bs : List UInt8) : ∀ c ∈ bs.map byL, c.length = (1 : Nat) := fun c hc => by
  obtain ⟨x, _, rfl⟩ := List.mem_map.1 hc; rfl

theorem LVal.min {G : Ctx} {o : Oper} {T : Nat → TV} {S : LS} {x y : Operand} {ts : Array TypeId} {k k' : IntKind} {a b : Int} (ho : o.op = .call { callee := .builtin .min, args := #[x, y], argTypes := ts })
    (hx : lev T x = .one (.v (.int k a))) (hy : lev T y = .one (.v (.int k' b))) : LVal G o T S (.one (.v (.int k (if b < a then b else a)))) :=
  .of_run fun K w ac hi hr => by
    have h1 := hr x (by rw [ho]; simp [Op.operands, Call.operands])
    have h2 := hr y (by rw [ho]; simp [Op.operands, Call.operands])
    rw [hx] at h1
    rw [hy] at h2
    refine ⟨_, ?_, .raw rfl⟩
    simp [execOp, ho, resolve, invoke, builtin, Builtin.min_, Builtin.min2, h1.flat, h2.flat]

theorem run_bytesToStr {P : Program} {w : World} {src dst e : TypeId} {b off cap : Nat} {bs : List UInt8} (hs : P.underlying src = some (.slice e)) (he : P.underlying e = some (.int .u8)) (hd : P.underlying dst = some .string)
    (h : ∀ (j : Nat) x, bs[j]? = some x → w.cell? ⟨b, off + j, none⟩ = some (.int .u8 x.toNat)) : (convert src dst (.slice (some ⟨b, off, none⟩) bs.length cap)).run P w = .ok (.string ⟨bs.toArray⟩) w := by
  rw [run_convert_bytes_string w src dst e _ _ _ hs he hd]
  have hl := run_loadCells_list (P := P) w ⟨b, off, none⟩ (bs.map fun b => Value.int .u8 b.toNat) (fun j v hv => by
    rw [List.getElem?_map] at hv
    obtain ⟨x, hb, rfl⟩ := Option.map_eq_some_iff.1 hv
    rw [add_off]; exact h j x hb)
  rw [List.length_map] at hl
  have hl2 := run_bytesToString (P := P) w ⟨b, off, none⟩ bs.length cap (bs.map fun b => (b.toNat : Int)) (by rw [hl]; simp)
  rw [hl2]
  congr 2
  have : ∀ (bs : List UInt8) (acc : ByteArray), (bs.map fun b => (b.toNat : Int)).foldl (fun r n => r.push (UInt8.ofNat n.toNat)) acc = ⟨acc.data ++ bs.toArray⟩ := by
    intro bs
    induction bs with
    | nil => intro acc; simp
    | cons b bs ih =>
      intro acc
      simp only [List.map_cons, List.foldl_cons, Int.toNat_natCast, UInt8.ofNat_toNat]
      rw [ih]
      apply congrArg
      simp [ByteArray.push]
  rw [this]
  simp

/-- A row of bytes as a string. -/
theorem LVal.bytesStr {G : Ctx} {D : Tab} (hD : TabOK G.P D) {o : Oper} {T : Nat → TV} {S : LS} {src dst e : TypeId} {x : Operand} {w0 : Own} {bs : List UInt8} {i j i2 : TI} (ho : o.op = .convert src dst x)
    (hx : lev T x = .one (.sl w0 (bs.map byL))) (hi : D.get src = some i) (hd : i.desc = .slice e) (hj : D.get e = some j) (hdj : j.desc = .int .u8) (hi2 : D.get dst = some i2) (hd2 : i2.desc = .string) : LVal G o T S (.one (.v (.string ⟨bs.toArray⟩))) :=
  .of_run fun K w ac hinv hr => by
    have h1 := hr x (by rw [ho]; simp [Op.operands])
    rw [hx] at h1
    have e1 := (hD.get hi).und
    rw [hd] at e1
    have e2 := (hD.get hj).und
    rw [hdj] at e2
    have e3 := (hD.get hi2).und
    rw [hd2] at e3
    have h2 := h1.of_one
    refine ⟨.string ⟨bs.toArray⟩, ?_, .raw rfl⟩
    have key : (convert src dst (ac.eval x)).run G.P w = .ok (.string ⟨bs.toArray⟩) w := by
      by_cases hne : bs = []
      · subst hne
        have hv : ∃ a cap, ac.eval x = .slice a 0 cap := by
          generalize ac.eval x = v at h2
          cases h2 with
          | nil => exact ⟨none, 0, rfl⟩
          | emp a cap => exact ⟨a, cap, rfl⟩
          | row _ _ b off cap z c => exact ⟨_, _, rfl⟩
        obtain ⟨a, cap, hv⟩ := hv
        rw [hv]
        cases a with
        | none => simp [convert, run_underlying e1, run_underlying e2, run_underlying e3, Conv.bytesToString]; rfl
        | some a =>
          simp [convert, run_underlying e1, run_underlying e2, run_underlying e3, Conv.bytesToString, loadCells]; rfl
      · obtain ⟨b, off, cap, vs, f1, f2, f3, f4, f5⟩ := h2.flat (z := 1) (by omega) (byL_len bs) (by simpa using hne)
        rw [f1, List.length_map]
        refine run_bytesToStr e1 e2 e3 fun q c hq => ?_
        have hcell : cellOf (bs.map byL) q 0 = some (.v (.int .u8 (c.toNat : Int))) := by simp [cellOf, hq, byL]
        obtain ⟨v, g1, g2⟩ := f3.rep _ _ _ hcell
        simp at g1
        have := f4 q v g1
        cases g2
        exact this.1
    simp only [execOp, ho, Sem.run_bind, key, Result.andThen_ok, Sem.run_pure]
end Go.Proofs.Ytkjbdldjfjkneaa.LF
