/- The reader's number, op, entry. -/
import Derived.Test.YtbifiagpmoakdaaLSa
import Derived.Test.YtbifiagpmoakdaaLFv
set_option linter.unusedVariables false
set_option linter.unusedSimpArgs false
namespace Go.Proofs.Ytbifiagpmoakdaa.LF
open Go.RowKit

structure Wr where
  key : ByteArray
  val : ByteArray
  gone : Bool
deriving DecidableEq
structure OpV where
  kind : Int
  key : ByteArray
  val : ByteArray
  old : ByteArray
  had : Bool
  after : Bool
  writes : List Wr
deriving DecidableEq
structure En where
  kind : Int
  a : Int
  b : Int
  op : OpV
deriving DecidableEq
def noOp : OpV := ⟨0, noBytes, noBytes, noBytes, false, false, []⟩
def wrL (x : Wr) : List LV := [sv x.key, sv x.val, bv x.gone]
def opW (o : Own) (x : OpV) : List LV := [uv x.kind, sv x.key, sv x.val, sv x.old, bv x.had, bv x.after, .sl o (x.writes.map wrL)]
abbrev opL (x : OpV) : List LV := opW .sh x
def enL (e : En) : List LV := [uv e.kind, iv e.a, iv e.b, uv e.op.kind, sv e.op.key, sv e.op.val, sv e.op.old, bv e.op.had, bv e.op.after, .sl .sh (e.op.writes.map wrL)]

theorem wrL_len (ws : List Wr) : ∀ c ∈ ws.map wrL, c.length = (3 : Nat) := fun c hc => by
  obtain ⟨x, _, rfl⟩ := List.mem_map.1 hc; rfl

/-- So many bytes as a number, the lowest first. -/
def numS (bs : List UInt8) : Nat → Nat → Nat → Nat × Bool → Nat × (Nat × Bool)
  | 0, _, x, s => (x, s)
  | n + 1, i, x, s => numS bs n (i + 1) (x + (byteS bs s).1 * 2 ^ (8 * i)) (byteS bs s).2
theorem numS_at {bs : List UInt8} : ∀ (n i x : Nat) (s : Nat × Bool), s.1 ≤ bs.length → (numS bs n i x s).2.1 ≤ bs.length := by
  intro n
  induction n with
  | zero => intro i x s h; exact h
  | succ n ih => intro i x s h; exact ih _ _ _ (byteS_at h)

set_option maxHeartbeats 4000000 in
theorem number_L {G : Ctx} (hP : G.P = Try.prog) (bs : List UInt8) (hl : bs.length ≤ 1000000000) (n : Nat) (hn : n ≤ 4) (s : Nat × Bool) (b : Nat) (S : LS) (hb : S.box b = some (rdL bs s.1 s.2)) (hs : s.1 ≤ bs.length) :
    LCalls G 26 [ptr b, .one (iv (n : Nat))] (RdPost b bs (.one (iv ((numS bs n 0 0 s).1 : Nat))) (numS bs n 0 0 s).2 S) S := by
  have hD : TabOK G.P D := by rw [hP]; exact hD0
  refine LCalls.enter (fn := Try.f26) (by rw [hP]; exact Try.func26) rfl rfl ?_
  repeat (first | refine LOps.nil ?_ | refine andThen_normal ?_ | refine andThen_exit ?_ | refine andThen_ret ?_ | refine inBlock_normal ?_ | refine inBlock_ret ?_ | refine inBlock_here ?_ | refine inBlock_out rfl ?_ | refine LWp.seq ?_ | refine LWp.region ?_ | refine LWp.block ?_ | refine LWp.exit ?_ | refine LWp.ret ?_ | refine LWp.skip ?_ | refine LOps.valA ?_ | refine LOps.outA ?_ | refine LOps.whenA ?_ | refine LOps.pickA ?_ | refine LOps.storeA ?_)
  refine LWp.loop (fun k T S' => ∃ T' j x p bad, j ≤ n ∧ k = n - j ∧ S.only (· = b) S' ∧ S'.box b = some (rdL bs p bad) ∧ p ≤ bs.length ∧ x < 2 ^ (8 * j) ∧ numS bs n 0 0 s = numS bs (n - j) j x (p, bad) ∧ T = over T' [(0, ptr b), (5, .one (iv (x : Nat))), (7, .one (iv (n : Nat))), (8, .one (iv (j : Nat)))]) n ?_ ?_
  · exact ⟨_, 0, 0, s.1, s.2, by omega, by omega, .refl _ _, hb, hs, by simp, rfl, holds.over ⟨rfl, rfl, rfl, rfl, trivial⟩⟩
  rintro k T S' ⟨T', j, x, p, bad, hj, rfl, o1, k1, hp, hx, he, rfl⟩
  repeat (first | refine LOps.nil ?_ | refine andThen_normal ?_ | refine andThen_exit ?_ | refine andThen_ret ?_ | refine inBlock_normal ?_ | refine inBlock_ret ?_ | refine inBlock_here ?_ | refine inBlock_out rfl ?_ | refine LWp.seq ?_ | refine LWp.region ?_ | refine LWp.block ?_ | refine LWp.exit ?_ | refine LWp.ret ?_ | refine LWp.skip ?_ | refine LOps.valA ?_ | refine LOps.outA ?_ | refine LOps.whenA ?_ | refine LOps.pickA ?_ | refine LOps.storeA ?_)
  refine LWp.cond rfl (fun h => ?_) (fun h => ?_)
  · have hlt : j < n := by simpa using h
    obtain ⟨c, p2, bad2, hx2⟩ : ∃ c p2 bad2, byteS bs (p, bad) = (c, (p2, bad2)) := ⟨_, _, _, rfl⟩
    have hc := byte_L hP bs hl (p, bad) b S' k1 hp
    have hc256 := byteS_lt bs (p, bad)
    have hp2 := byteS_at (bs := bs) (s := (p, bad)) hp
    rw [hx2] at hc hc256 hp2
    have hc : LCalls G 24 [ptr b] (RdPost b bs (.one (iv (c : Int))) (p2, bad2) S') S' := hc
    have hc256 : c < 256 := hc256
    have hp2 : p2 ≤ bs.length := hp2
    have hpow : 2 ^ (8 * j) ≤ 16777216 := by
      rcases (by omega : j = 0 ∨ j = 1 ∨ j = 2 ∨ j = 3) with rfl | rfl | rfl | rfl <;> decide
    have hm : c * 2 ^ (8 * j) ≤ 255 * 16777216 := Nat.mul_le_mul (by omega) hpow
    have hstep : numS bs (n - j) j x (p, bad) = numS bs (n - (j + 1)) (j + 1) (x + c * 2 ^ (8 * j)) (p2, bad2) := by
      rw [show n - j = (n - (j + 1)) + 1 by omega]
      simp only [numS, hx2]
    have hx' : x + c * 2 ^ (8 * j) < 2 ^ (8 * (j + 1)) := by
      have e : 2 ^ (8 * (j + 1)) = 256 * 2 ^ (8 * j) := by rw [Nat.mul_add, Nat.pow_add, Nat.mul_comm]
      rw [e]
      have : c * 2 ^ (8 * j) ≤ 255 * 2 ^ (8 * j) := Nat.mul_le_mul_right _ (by omega)
      omega
    repeat (first | refine LOps.nil ?_ | refine andThen_normal ?_ | refine andThen_exit ?_ | refine andThen_ret ?_ | refine inBlock_normal ?_ | refine inBlock_ret ?_ | refine inBlock_here ?_ | refine inBlock_out rfl ?_ | refine LWp.seq ?_ | refine LWp.region ?_ | refine LWp.block ?_ | refine LWp.exit ?_ | refine LWp.ret ?_ | refine LWp.skip ?_ | refine LOps.valA ?_ | refine LOps.outA ?_ | refine LOps.whenA ?_ | refine LOps.pickA ?_ | refine LOps.storeA ?_)
    refine LOps.do (LDo.callF hc (by rw [hP]; exact Try.func24)) rfl rfl rfl ?_
    rintro _ S1 ⟨o2, k2, rfl⟩
    repeat (first | refine LOps.val (LVal.shlN (m := c) (c := 8 * j) rfl rfl rfl (by push_cast; rfl) (by omega) (by omega)) rfl rfl rfl ?_ | refine LOps.val (LVal.orN (a := x) (m := c) (c := 8 * j) rfl rfl rfl hx (by omega)) rfl rfl rfl ?_ | refine LOps.nil ?_ | refine andThen_normal ?_ | refine andThen_exit ?_ | refine andThen_ret ?_ | refine inBlock_normal ?_ | refine inBlock_ret ?_ | refine inBlock_here ?_ | refine inBlock_out rfl ?_ | refine LWp.seq ?_ | refine LWp.region ?_ | refine LWp.block ?_ | refine LWp.exit ?_ | refine LWp.ret ?_ | refine LWp.skip ?_ | refine LOps.valA ?_ | refine LOps.outA ?_ | refine LOps.whenA ?_ | refine LOps.pickA ?_ | refine LOps.storeA ?_)
    exact ⟨n - (j + 1), by omega, _, j + 1, _, p2, bad2, by omega, rfl, o1.trans o2, k2, hp2, hx', by rw [he, hstep], holds.over ⟨rfl, rfl, rfl, rfl, trivial⟩⟩
  · have hge : j = n := by have : n ≤ j := by simpa using h
                           omega
    subst hge
    repeat (first | refine LOps.nil ?_ | refine andThen_normal ?_ | refine andThen_exit ?_ | refine andThen_ret ?_ | refine inBlock_normal ?_ | refine inBlock_ret ?_ | refine inBlock_here ?_ | refine inBlock_out rfl ?_ | refine LWp.seq ?_ | refine LWp.region ?_ | refine LWp.block ?_ | refine LWp.exit ?_ | refine LWp.ret ?_ | refine LWp.skip ?_ | refine LOps.valA ?_ | refine LOps.outA ?_ | refine LOps.whenA ?_ | refine LOps.pickA ?_ | refine LOps.storeA ?_)
    refine ⟨_, LRes.one rfl, o1, ?_, ?_⟩
    · rw [he, Nat.sub_self]; exact k1
    · rw [he, Nat.sub_self]; rfl

theorem textS_at {bs : List UInt8} {s : Nat × Bool} (h : s.1 ≤ bs.length) : (textS bs s).2.1 ≤ bs.length := by
  unfold textS
  have := byteS_at (bs := bs) (s := s) h
  simp only
  split
  · exact this
  · rename_i hn
    simp at hn
    simp only; omega
theorem markS_at {bs : List UInt8} {s : Nat × Bool} (h : s.1 ≤ bs.length) : (markS bs s).2.1 ≤ bs.length := byteS_at (bs := bs) (s := s) h

/-- A step of the reader, by its parts. -/
def Step (G : Ctx) (f : FuncId) (b : Nat) (bs : List UInt8) (v : TV) (p : Nat) (bad : Bool) (S : LS) : Prop := LCalls G f [ptr b] (fun r S' => S.only (· = b) S' ∧ S'.box b = some (rdL bs p bad) ∧ r = v) S

theorem byte_C {G : Ctx} (hP : G.P = Try.prog) {bs : List UInt8} (hl : bs.length ≤ 1000000000) {p : Nat} {bad : Bool} {b : Nat} {S : LS} (hb : S.box b = some (rdL bs p bad)) (hs : p ≤ bs.length) :
    ∃ n p' bad', byteS bs (p, bad) = (n, (p', bad')) ∧ n < 256 ∧ p' ≤ bs.length ∧ Step G 24 b bs (.one (iv (n : Nat))) p' bad' S :=
  ⟨_, _, _, rfl, byteS_lt bs (p, bad), byteS_at (s := (p, bad)) hs, byte_L hP bs hl (p, bad) b S hb hs⟩
theorem mark_C {G : Ctx} (hP : G.P = Try.prog) {bs : List UInt8} (hl : bs.length ≤ 1000000000) {p : Nat} {bad : Bool} {b : Nat} {S : LS} (hb : S.box b = some (rdL bs p bad)) (hs : p ≤ bs.length) :
    ∃ g p' bad', markS bs (p, bad) = (g, (p', bad')) ∧ p' ≤ bs.length ∧ Step G 34 b bs (.one (bv g)) p' bad' S :=
  ⟨_, _, _, rfl, markS_at (s := (p, bad)) hs, mark_L hP bs hl (p, bad) b S hb hs⟩
theorem text_C {G : Ctx} (hP : G.P = Try.prog) {bs : List UInt8} (hl : bs.length ≤ 1000000000) {p : Nat} {bad : Bool} {b : Nat} {S : LS} (hb : S.box b = some (rdL bs p bad)) (hs : p ≤ bs.length) :
    ∃ t p' bad', textS bs (p, bad) = (t, (p', bad')) ∧ p' ≤ bs.length ∧ Step G 33 b bs (.one (sv t)) p' bad' S :=
  ⟨_, _, _, rfl, textS_at (s := (p, bad)) hs, text_L hP bs hl (p, bad) b S hb hs⟩

def writesS (bs : List UInt8) : Nat → Nat × Bool → List Wr × (Nat × Bool)
  | 0, s => ([], s)
  | n + 1, s =>
    let k := textS bs s
    let g := markS bs k.2
    let v := if g.1 then (noBytes, g.2) else textS bs g.2
    let r := writesS bs n v.2
    (⟨k.1, v.1, g.1⟩ :: r.1, r.2)

def opS (bs : List UInt8) (s : Nat × Bool) : OpV × (Nat × Bool) :=
  let k := byteS bs s
  if k.1 = 1 ∨ k.1 = 3 then
    let t := textS bs k.2
    ({ noOp with kind := k.1, key := t.1 }, t.2)
  else if k.1 = 2 then
    let t := textS bs k.2
    let u := textS bs t.2
    ({ noOp with kind := k.1, key := t.1, val := u.1 }, u.2)
  else if k.1 = 4 then
    let t := textS bs k.2
    let u := textS bs t.2
    let g := markS bs u.2
    let v := if g.1 then textS bs g.2 else (noBytes, g.2)
    ({ noOp with kind := k.1, key := t.1, val := u.1, had := g.1, old := v.1 }, v.2)
  else if k.1 = 5 then
    let t := textS bs k.2
    let g := markS bs t.2
    ({ noOp with kind := k.1, key := t.1, after := g.1 }, g.2)
  else if k.1 = 6 then
    let n := byteS bs k.2
    let w := writesS bs n.1 n.2
    ({ noOp with kind := k.1, writes := w.1 }, w.2)
  else ({ noOp with kind := k.1 }, (k.2.1, true))
end Go.Proofs.Ytbifiagpmoakdaa.LF
