/- Slices that are parts of a box's row; a node whose slices are such parts. -/
import Derived.Test.YtjcpcgneghanfaaLBz
set_option linter.unusedVariables false
set_option linter.unusedSimpArgs false
namespace Go.Proofs.Ytjcpcgneghanfaa.LF
open Go.RowKit
set_option linter.unusedVariables false

theorem LDo.mono' {G : Ctx} {o : Oper} {T : Nat → TV} {S : LS} {R R' : TV → LS → Prop} (h : LDo G o T S R) (hr : ∀ r S', R r S' → R' r S') : LDo G o T S R' :=
  fun K w a hi hv => upon_mono (fun _ _ ⟨r', v, S', K', h1, h2, h3, h4, h5⟩ => ⟨r', v, S', K', h1, h2, h3, h4, hr _ _ h5⟩) (fun _ _ _ h => h) (h K w a hi hv)

/-- A slice that is nil, or a part of a box's row, with room behind it. -/
inductive PtAt {α : Type} (f : α → List LV) (z : Nat) (S : LS) : LV → List α → Prop
  | nil : PtAt f z S (.sl .nil []) []
  | row (r off c : Nat) (l : List α) (A B : List LV) (hb : S.box r = some (A ++ (cellsR f l ++ B))) (ho : A.length = off) (hl : l.length ≤ c) (hc : c * z ≤ (cellsR f l ++ B).length) : PtAt f z S (rsl r off l.length c) l

section
variable {α : Type} {f : α → List LV} {z : Nat} {S S' : LS} {X Y : LV} {l : List α}
theorem SlAt.pt (hz : ∀ x, (f x).length = z) (h : SlAt f z S X l) : PtAt f z S X l := by
  cases h with
  | nil => exact .nil
  | row r c _ rest h => exact .row r 0 c l [] rest h.box rfl h.cap (by rw [h.len hz]; exact Nat.le_refl _)
theorem PtAt.block (h : PtAt f z S X l) : ∀ b, blockOf X = some b → ∃ cs, S.box b = some cs := fun b hb => by
  cases h with
  | nil => cases hb
  | row r off c _ A B h _ _ _ =>
    obtain rfl : r = b := by simpa [blockOf] using hb
    exact ⟨_, h⟩
theorem PtAt.keep (h : PtAt f z S X l) (k : ∀ b cs, blockOf X = some b → S.box b = some cs → S'.box b = some cs) : PtAt f z S' X l := by
  cases h with
  | nil => exact .nil
  | row r off c _ A B h ho hl hc => exact .row r off c l A B (k r _ rfl h) ho hl hc
theorem PtAt.view (hz : ∀ x, (f x).length = z) (h : PtAt f z S X l) : View S X (.sl .sh (l.map f)) := by
  cases h with
  | nil => exact .sh .nil []
  | row r off c _ A B h ho hl hc =>
    refine .row r off c z _ (l.map f) _ (by rw [List.length_map]) h ⟨fun e he => ?_, ?_, ?_, by rw [List.length_map]; exact hl⟩
    · obtain ⟨x, _, rfl⟩ := List.mem_map.1 he
      exact hz x
    · rw [List.drop_left' ho, List.length_map, ← cellsR_length hz, List.take_left]; rfl
    · rw [List.length_map, ← cellsR_length hz, List.length_append, List.length_append]; omega
theorem LVal.lenPt {G : Ctx} {D : Tab} (hD : TabOK G.P D) {o : Oper} {T : Nat → TV} {S2 : LS} {t e : TypeId} {x : Operand} {i : TI} (ho : o.op = .call { callee := .builtin .len, args := #[x], argTypes := #[t] })
    (hx : lev T x = .one X) (h : PtAt f z S' X l) (hi : D.get t = some i) (hd : i.desc = .slice e) : LVal G o T S2 (.one (iv (l.length : Nat))) := by
  cases h with
  | nil => exact LVal.len hD ho hx hi hd
  | row r off c _ A B h _ _ _ => exact LVal.lenR hD ho hx hi hd
theorem PtAt.row_of (h : PtAt f z S X l) (hl : 0 < l.length) : ∃ r off c A B, X = rsl r off l.length c ∧ S.box r = some (A ++ (cellsR f l ++ B)) ∧ A.length = off ∧ l.length ≤ c ∧ c * z ≤ (cellsR f l ++ B).length := by
  cases h with
  | nil => simp at hl
  | row r off c _ A B h h1 h2 h3 => exact ⟨r, off, c, A, B, rfl, h, h1, h2, h3⟩
/-- An element is written over. -/
theorem PtAt.setAt (hz : ∀ x, (f x).length = z) {r off c : Nat} {A B : List LV} (h : S.box r = some (A ++ (cellsR f l ++ B))) (ho : A.length = off) (hl : l.length ≤ c) (hc : c * z ≤ (cellsR f l ++ B).length) {j : Nat} (hj : j < l.length) (v : α) :
    splice (A ++ (cellsR f l ++ B)) (off + j * z) (f v) = A ++ (cellsR f (l.set j v) ++ B) ∧ PtAt f z (S.setBox r (A ++ (cellsR f (l.set j v) ++ B))) (rsl r off l.length c) (l.set j v) := by
  have e1 := set_cells (rest := B) (x := v) (A := []) (y := f l[j]) (y' := f v) (B := []) hz hj (by simp) (by simp) (by rw [hz, hz]) (off := j * z) (by simp)
  have hjz : j * z + z ≤ (cellsR f l).length := by
    rw [cellsR_length hz, ← Nat.succ_mul]
    exact Nat.mul_le_mul_right _ hj
  have e2 : splice (A ++ (cellsR f l ++ B)) (off + j * z) (f v) = A ++ splice (cellsR f l ++ B) (j * z) (f v) := by
    subst ho
    unfold splice
    rw [List.take_length_add_append, Nat.add_assoc, List.drop_length_add_append]
    simp only [List.append_assoc]
  refine ⟨by rw [e2, e1], ?_⟩
  have hfin := PtAt.row (f := f) (z := z) (S := S.setBox r (A ++ (cellsR f (l.set j v) ++ B))) r off c (l.set j v) A B (box_set _ _ _) ho (by rw [List.length_set]; exact hl) (by rw [List.length_append, cellsR_length hz, List.length_set, ← cellsR_length hz, ← List.length_append]; exact hc)
  rwa [List.length_set] at hfin
/-- append of one element. -/
theorem LDo.pushPt {G : Ctx} {D : Tab} (hD : TabOK G.P D) {o : Oper} {T : Nat → TV} {s x : Operand} {t e : TypeId} {i j : TI} {v : α} (hz : ∀ x, (f x).length = z) (ho : o.op = .call { callee := .builtin .append, args := #[s, x], argTypes := #[t, t] })
    (hs : lev T s = .one X) (hx : lev T x = .one (.sl .sh [f v])) (hi : D.get t = some i) (hd : i.desc = .slice e) (hj : D.get e = some j) (hsz : Nat.blt 0 j.size = true) (hzs : j.zero.cells.size = j.size) (hzz : j.zero.cells.toList.all Value.oneCell' = true) (hby : Nat.ble j.bytes 1024 = true) (hjz : j.size = z) (h : PtAt f z S X l) (hl : l.length ≤ 90000000) :
    LDo G o T S (fun r S' => ∃ X', r = .one X' ∧ PtAt f z S' X' (l ++ [v]) ∧ Mv S X S' X') := by
  have hv : SrcL S j.size (.sl .sh [f v]) 1 (f v) := by
    have := SrcL.sl (S := S) (z := j.size) .sh [f v] (by intro e he; rw [List.mem_singleton.1 he, hz, hjz])
    simpa using this
  have grow : ∀ {n c : Nat} {l0 : List LV}, n = l.length → l0 = cellsR f l → ((∃ a, X = .v (.slice a n c)) ∨ (X = .sl .nil [] ∧ c = 0)) → SrcL S j.size X n l0 → c < n + 1 → LDo G o T S (fun r S' => ∃ X', r = .one X' ∧ PtAt f z S' X' (l ++ [v]) ∧ Mv S X S' X') := fun {n c l0} hn hl0 hcap hsrc hg => by
    refine (LDo.appendGrowR hD ho hs hx hi hd hj hsz hzz hby hcap hsrc hv hg (by omega)).mono' fun r S' ⟨b', c', hb', hc', e1, e2⟩ => ?_
    subst e2
    have hlen : (l ++ [v]).length = n + 1 := by rw [List.length_append, hn]; rfl
    have hp : PtAt f z (S.newBox b' (l0 ++ f v ++ zrow j (c' - (n + 1)))) (rsl b' 0 (l ++ [v]).length c') (l ++ [v]) := by
      refine .row b' 0 c' (l ++ [v]) [] (zrow j (c' - (n + 1))) ?_ rfl (by omega) ?_
      · rw [box_new, cellsR_append, cellsR_one, hl0]; rfl
      · rw [List.length_append, cellsR_length hz, hlen]
        have : (zrow j (c' - (n + 1))).length = (c' - (n + 1)) * z := by rw [zrow_length, hzs, hjz]
        rw [this, ← Nat.add_mul]
        exact Nat.mul_le_mul_right _ (by omega)
    rw [hlen] at hp
    exact ⟨_, e1, hp, Mv.grow (.newBox (.refl _) hb' _) hb' _ _⟩
  cases h with
  | nil => exact grow (n := 0) (c := 0) (l0 := []) rfl rfl (.inr ⟨rfl, rfl⟩) (SrcL.sl .nil [] (by simp)) (by decide)
  | row r off c _ A B hb ho2 hlc hc =>
    have hcz : (cellsR f l ++ B).length = l.length * z + B.length := by rw [List.length_append, cellsR_length hz]
    have hlz : l.length * z ≤ c * z := Nat.mul_le_mul_right _ hlc
    by_cases hr : l.length + 1 ≤ c
    · have hB : z ≤ B.length := by
        have h1 : (l.length + 1) * z ≤ c * z := Nat.mul_le_mul_right _ hr
        rw [Nat.succ_mul] at h1
        omega
      refine (LDo.appendRoomR hD ho hs hx hi hd hj hsz hb (by rw [hjz, List.length_append, ho2]; omega) hv hr).mono' fun r0 S' ⟨e1, e2⟩ => ?_
      subst e2
      have es : splice (A ++ (cellsR f l ++ B)) (off + l.length * j.size) (f v) = A ++ (cellsR f (l ++ [v]) ++ B.drop z) := by
        have h3 : A ++ (cellsR f l ++ B) = (A ++ cellsR f l) ++ B.take z ++ B.drop z := by rw [List.append_assoc, List.append_assoc, List.take_append_drop]
        rw [h3, splice_at (by rw [List.length_append, ho2, cellsR_length hz, hjz]) (by rw [hz, List.length_take]; omega), cellsR_append, cellsR_one]
        simp only [List.append_assoc]
      rw [es]
      have hlen : (l ++ [v]).length = l.length + 1 := by rw [List.length_append]; rfl
      have hp : PtAt f z (S.setBox r (A ++ (cellsR f (l ++ [v]) ++ B.drop z))) (rsl r off (l ++ [v]).length c) (l ++ [v]) := by
        refine .row r off c (l ++ [v]) A (B.drop z) (box_set _ _ _) ho2 (by omega) ?_
        rw [List.length_append, cellsR_length hz, hlen, List.length_drop, Nat.succ_mul]
        omega
      rw [hlen] at hp
      refine ⟨_, e1, hp, ⟨fun b cs hb2 hne => ?_, fun _ _ h => h, fun _ _ h => h, Nat.le_refl _⟩⟩
      have hne' : b ≠ r := fun e => hne (by rw [e]; rfl)
      exact ⟨(box_set_ne S _ hne').trans hb2, hne⟩
    · refine grow (n := l.length) (c := c) (l0 := cellsR f l) rfl rfl (.inl ⟨_, rfl⟩) ?_ (by omega)
      have := SrcL.raw (S := S) (z := j.size) r off l.length c _ hb (by rw [hjz, List.length_append, ho2]; omega)
      have e : ((A ++ (cellsR f l ++ B)).drop off).take (l.length * j.size) = cellsR f l := by rw [List.drop_left' ho2, hjz, ← cellsR_length hz, List.take_left]
      rw [e] at this
      exact this
end

/-- A node of its own: its slices are parts of boxes that are new over S0, apart from one another. -/
structure Rwp (S0 S : LS) (n : NdV) (X Y Z : LV) : Prop where
  x : PtAt sL 1 S X n.keys
  y : PtAt sL 1 S Y n.vals
  z : PtAt hdL 2 S Z n.kids
  nx : ∀ c, blockOf X = some c → S0.box c = none
  ny : ∀ c, blockOf Y = some c → S0.box c = none
  nz : ∀ c, blockOf Z = some c → S0.box c = none
  xy : ∀ c, blockOf X = some c → blockOf Y ≠ some c
  xz : ∀ c, blockOf X = some c → blockOf Z ≠ some c
  yz : ∀ c, blockOf Y = some c → blockOf Z ≠ some c
section
variable {S0 S1 S S' : LS} {n m : NdV} {X Y Z X' Y' Z' : LV}
theorem Raw.pt (R : Raw S0 S n X Y Z) : Rwp S0 S n X Y Z := ⟨R.x.pt sL_len, R.y.pt sL_len, R.z.pt hdL_len, R.nx, R.ny, R.nz, R.xy, R.xz, R.yz⟩
theorem Rwp.keep (R : Rwp S0 S n X Y Z) (k : ∀ c cs, S.box c = some cs → blockOf X = some c ∨ blockOf Y = some c ∨ blockOf Z = some c → S'.box c = some cs) : Rwp S0 S' n X Y Z :=
  ⟨R.x.keep fun b cs h1 h2 => k b cs h2 (.inl h1), R.y.keep fun b cs h1 h2 => k b cs h2 (.inr (.inl h1)), R.z.keep fun b cs h1 h2 => k b cs h2 (.inr (.inr h1)), R.nx, R.ny, R.nz, R.xy, R.xz, R.yz⟩
theorem Rwp.le (R : Rwp S0 S n X Y Z) (h : S.le S') : Rwp S0 S' n X Y Z := R.keep fun c cs hc _ => h.box c cs hc
theorem Rwp.set {b : Nat} (R : Rwp S0 S n X Y Z) (h : Off X Y Z b) (cs : List LV) : Rwp S0 (S.setBox b cs) n X Y Z :=
  R.keep fun c cs' hc hx => (box_set_ne S cs (fun e => by
    subst e
    rcases hx with hx | hx | hx
    · exact h.1 hx
    · exact h.2.1 hx
    · exact h.2.2 hx)).trans hc
theorem Rwp.offNew {b : Nat} (R : Rwp S0 S n X Y Z) (h : S.box b = none) : Off X Y Z b := by
  refine ⟨fun e => ?_, fun e => ?_, fun e => ?_⟩
  · obtain ⟨cs, hcs⟩ := R.x.block b e; rw [h] at hcs; cases hcs
  · obtain ⟨cs, hcs⟩ := R.y.block b e; rw [h] at hcs; cases hcs
  · obtain ⟨cs, hcs⟩ := R.z.block b e; rw [h] at hcs; cases hcs
theorem Rwp.offOld {b : Nat} {cs : List LV} (R : Rwp S0 S n X Y Z) (h : S0.box b = some cs) : Off X Y Z b := by
  refine ⟨fun e => ?_, fun e => ?_, fun e => ?_⟩
  · have := R.nx b e; rw [h] at this; cases this
  · have := R.ny b e; rw [h] at this; cases this
  · have := R.nz b e; rw [h] at this; cases this
theorem Rwp.base (R : Rwp S1 S n X Y Z) (h : S0.le S1) : Rwp S0 S n X Y Z := by
  have hno : ∀ c, S1.box c = none → S0.box c = none := fun c hc => by
    cases hq : S0.box c with
    | none => rfl
    | some cs => rw [h.box c cs hq] at hc; cases hc
  exact ⟨R.x, R.y, R.z, fun c h => hno c (R.nx c h), fun c h => hno c (R.ny c h), fun c h => hno c (R.nz c h), R.xy, R.xz, R.yz⟩
theorem Rwp.spo (R : Rwp S0 S n X Y Z) (sp : Spo S X' Y' Z' S') (h : Apt X Y Z X' Y' Z') : Rwp S0 S' n X Y Z := R.keep fun c cs hc hx => sp.box c cs hc (h c hx).1 (h c hx).2.1 (h c hx).2.2
theorem Rwp.views (R : Rwp S0 S n X Y Z) : views S (ndX n X Y Z) (ndL n) :=
  ⟨.same _, R.x.view sL_len, R.y.view sL_len, R.z.view hdL_len, .same _, .same _, .same _, .same _, trivial⟩
end
end Go.Proofs.Ytjcpcgneghanfaa.LF
