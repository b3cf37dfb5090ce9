/- What is read of bytes is what was written: readers and their writers. -/
import Derived.Test.YtbifiagpmoakdaaLSe
set_option linter.unusedVariables false
set_option linter.unusedSimpArgs false
namespace Go.Proofs.Ytbifiagpmoakdaa.LF
open Go.RowKit

theorem pre_app {α : Type} {a b l : List α} : a ++ b <+: l ↔ a <+: l ∧ b <+: l.drop a.length := by
  constructor
  · rintro ⟨t, rfl⟩
    exact ⟨⟨b ++ t, by simp⟩, ⟨t, by simp⟩⟩
  · rintro ⟨⟨t, rfl⟩, h⟩
    rw [List.drop_left] at h
    obtain ⟨u, rfl⟩ := h
    exact ⟨u, by simp⟩
theorem pre_le {α : Type} {a l : List α} {p : Nat} (h : a <+: l.drop p) (hp : p ≤ l.length) : p + a.length ≤ l.length := by
  have := h.length_le
  rw [List.length_drop] at this
  omega

/-- A reader and its writer. -/
structure Codec {α : Type} (f : List UInt8 → Nat × Bool → α × (Nat × Bool)) (w : α → List UInt8) (ok : α → Prop) : Prop where
  bad : ∀ bs p, (f bs (p, true)).2.2 = true
  iff : ∀ bs p x p', p ≤ bs.length → (f bs (p, false) = (x, (p', false)) ↔ ok x ∧ p' = p + (w x).length ∧ w x <+: bs.drop p)

theorem Codec.byte : Codec byteS (fun x => [UInt8.ofNat x]) (· < 256) := by
  refine ⟨fun bs p => by simp [byteS], fun bs p x p' hp => ?_⟩
  by_cases h : p < bs.length
  · rw [byteS, if_neg (by simp; omega)]
    rw [List.drop_eq_getElem_cons h, List.getD_eq_getElem?_getD, List.getElem?_eq_getElem h]
    simp only [Option.getD_some, Prod.mk.injEq, and_true, List.length_cons, List.length_nil, List.cons_prefix_cons, List.nil_prefix]
    constructor
    · rintro ⟨rfl, rfl⟩
      exact ⟨UInt8.toNat_lt _, rfl, UInt8.ofNat_toNat⟩
    · rintro ⟨h1, rfl, h2⟩
      refine ⟨?_, rfl⟩
      rw [← h2, UInt8.toNat_ofNat', Nat.mod_eq_of_lt h1]
  · rw [byteS, if_pos (by simp; omega), List.drop_eq_nil_of_le (by omega)]
    simp

theorem Codec.bind {α β : Type} {f : List UInt8 → Nat × Bool → α × (Nat × Bool)} {w : α → List UInt8} {ok : α → Prop} (hf : Codec f w ok)
    {g : α → List UInt8 → Nat × Bool → β × (Nat × Bool)} {v : α → β → List UInt8} {okg : α → β → Prop} (hbad : ∀ x bs p, (g x bs (p, true)).2.2 = true) (hg : ∀ x, ok x → Codec (g x) (v x) (okg x)) :
    Codec (fun bs s => (((f bs s).1, (g (f bs s).1 bs (f bs s).2).1), (g (f bs s).1 bs (f bs s).2).2)) (fun xy => w xy.1 ++ v xy.1 xy.2) (fun xy => ok xy.1 ∧ okg xy.1 xy.2) := by
  refine ⟨fun bs p => ?_, fun bs p xy p' hp => ?_⟩
  · have h := hf.bad bs p
    generalize f bs (p, true) = r at h ⊢
    obtain ⟨a, q, d⟩ := r
    have h : d = true := h
    subst h
    exact hbad _ _ _
  · obtain ⟨x, y⟩ := xy
    have hi := hf.iff bs p
    generalize f bs (p, false) = r at hi
    obtain ⟨a, q, d⟩ := r
    simp only [Prod.mk.injEq]
    cases d with
    | true =>
      have hb := hbad a bs q
      generalize g a bs (q, true) = r at hb
      obtain ⟨b, q', d'⟩ := r
      simp only at hb
      subst hb
      constructor
      · simp
      · rintro ⟨⟨h1, h2⟩, rfl, h3⟩
        have := (hi x _ hp).2 ⟨h1, rfl, (pre_app.1 h3).1⟩
        simp at this
    | false =>
      constructor
      · rintro ⟨⟨rfl, e1⟩, e2⟩
        obtain ⟨h1, rfl, h2⟩ := (hi a q hp).1 rfl
        have hq := pre_le h2 hp
        obtain ⟨k1, k2, k3⟩ := ((hg a h1).iff bs _ y p' hq).1 (Prod.ext e1 e2)
        refine ⟨⟨h1, k1⟩, by rw [k2, List.length_append]; omega, pre_app.2 ⟨h2, ?_⟩⟩
        rw [List.drop_drop]
        exact k3
      · rintro ⟨⟨h1, h2⟩, rfl, h3⟩
        obtain ⟨h3, h4⟩ := pre_app.1 h3
        have := (hi x _ hp).2 ⟨h1, rfl, h3⟩
        simp only [Prod.mk.injEq, and_true] at this
        obtain ⟨rfl, rfl⟩ := this
        have hq := pre_le h3 hp
        rw [List.drop_drop] at h4
        have := ((hg a h1).iff bs _ y _ hq).2 ⟨h2, rfl, h4⟩
        rw [this]
        exact ⟨⟨rfl, rfl⟩, by rw [List.length_append, Nat.add_assoc]⟩

theorem Codec.bind' {α β : Type} {f : List UInt8 → Nat × Bool → α × (Nat × Bool)} {w : α → List UInt8} {ok : α → Prop} (hf : Codec f w ok)
    {g : List UInt8 → Nat × Bool → β × (Nat × Bool)} {v : β → List UInt8} {okg : β → Prop} (hg : Codec g v okg) :
    Codec (fun bs s => (((f bs s).1, (g bs (f bs s).2).1), (g bs (f bs s).2).2)) (fun xy => w xy.1 ++ v xy.2) (fun xy => ok xy.1 ∧ okg xy.2) :=
  hf.bind (g := fun _ => g) (v := fun _ => v) (okg := fun _ => okg) (fun _ => hg.bad) fun _ _ => hg

theorem Codec.map {α β : Type} {f : List UInt8 → Nat × Bool → α × (Nat × Bool)} {w : α → List UInt8} {ok : α → Prop} (hf : Codec f w ok) (e : α → β) {w' : β → List UInt8} {ok' : β → Prop}
    (hok : ∀ y, ok' y ↔ ∃ x, ok x ∧ e x = y) (hw : ∀ x, ok x → w' (e x) = w x) : Codec (fun bs s => (e (f bs s).1, (f bs s).2)) w' ok' := by
  refine ⟨fun bs p => hf.bad bs p, fun bs p y p' hp => ?_⟩
  constructor
  · intro h
    have e1 := congrArg Prod.fst h
    have e2 := congrArg Prod.snd h
    simp only at e1 e2
    obtain ⟨h1, h2, h3⟩ := (hf.iff bs p _ p' hp).1 (Prod.ext rfl e2)
    rw [← e1, hw _ h1]
    exact ⟨(hok _).2 ⟨_, h1, rfl⟩, h2, h3⟩
  · rintro ⟨h1, rfl, h2⟩
    obtain ⟨x, h3, rfl⟩ := (hok y).1 h1
    rw [hw x h3] at h2 ⊢
    rw [(hf.iff bs p x _ hp).2 ⟨h3, rfl, h2⟩]

theorem Codec.pure {α : Type} (a : α) : Codec (fun _ s => (a, s)) (fun _ => []) (· = a) := by
  refine ⟨fun _ _ => rfl, fun bs p x p' _ => ?_⟩
  simp only [Prod.mk.injEq, and_true, List.length_nil, Nat.add_zero, List.nil_prefix]
  exact ⟨fun ⟨h1, h2⟩ => ⟨h1.symm, h2.symm⟩, fun ⟨h1, h2⟩ => ⟨h1.symm, h2.symm⟩⟩

theorem Codec.never {α : Type} {f : List UInt8 → Nat × Bool → α × (Nat × Bool)} (h : ∀ bs s, (f bs s).2.2 = true) (w : α → List UInt8) : Codec f w (fun _ => False) := by
  refine ⟨fun bs p => h bs _, fun bs p x p' _ => ⟨fun e => ?_, fun e => e.1.elim⟩⟩
  have := h bs (p, false)
  rw [e] at this
  cases this

theorem Codec.congr {α : Type} {f f' : List UInt8 → Nat × Bool → α × (Nat × Bool)} {w w' : α → List UInt8} {ok ok' : α → Prop} (hf : Codec f w ok) (h : ∀ bs s, f' bs s = f bs s) (hok : ∀ x, ok' x ↔ ok x) (hw : ∀ x, ok x → w' x = w x) : Codec f' w' ok' := by
  refine ⟨fun bs p => by rw [h]; exact hf.bad bs p, fun bs p x p' hp => ?_⟩
  rw [h, hf.iff bs p x p' hp, hok]
  constructor
  · rintro ⟨h1, h2, h3⟩; rw [hw x h1]; exact ⟨h1, h2, h3⟩
  · rintro ⟨h1, h2, h3⟩; rw [hw x h1] at h2 h3; exact ⟨h1, h2, h3⟩

/-- So many bytes. -/
def takeS (n : Nat) (bs : List UInt8) (s : Nat × Bool) : ByteArray × (Nat × Bool) :=
  if s.2 || decide (bs.length < n + s.1) then (noBytes, (s.1, true)) else (⟨((bs.drop s.1).take n).toArray⟩, (s.1 + n, false))
theorem Codec.take (n : Nat) : Codec (takeS n) (fun t => t.data.toList) (fun t => t.size = n) := by
  refine ⟨fun bs p => by simp [takeS], fun bs p t p' hp => ?_⟩
  by_cases h : bs.length < n + p
  · rw [takeS, if_pos (by simp [h])]
    constructor
    · intro e; cases e
    · rintro ⟨h1, rfl, h2⟩
      have := pre_le h2 hp
      have e : t.data.toList.length = n := h1
      omega
  · rw [takeS, if_neg (by simp; omega)]
    have hl : ((bs.drop p).take n).length = n := by rw [List.length_take, List.length_drop]; omega
    constructor
    · intro e
      simp only [Prod.mk.injEq, and_true] at e
      obtain ⟨rfl, rfl⟩ := e
      exact ⟨by simpa [ByteArray.size] using hl, by simp only; rw [hl], by simp only; exact List.take_prefix _ _⟩
    · rintro ⟨h1, rfl, h2⟩
      have e : t.data.toList.length = n := h1
      have h3 := List.prefix_iff_eq_take.1 h2
      rw [e] at h3 ⊢
      rw [← h3]

def textB (t : ByteArray) : List UInt8 := UInt8.ofNat t.size :: t.data.toList
def markB (g : Bool) : List UInt8 := [if g then 1 else 0]
theorem Codec.text : Codec textS textB (fun t => t.size < 256) := by
  refine ((Codec.byte.bind (g := takeS) (v := fun _ t => t.data.toList) (okg := fun n t => t.size = n) (fun _ bs p => by simp [takeS]) fun n _ => Codec.take n).map (β := ByteArray) Prod.snd (w' := textB) (ok' := fun t => t.size < 256) ?_ ?_).congr (fun bs s => rfl) (fun _ => Iff.rfl) (fun _ _ => rfl)
  · intro t
    exact ⟨fun h => ⟨(t.size, t), ⟨h, rfl⟩, rfl⟩, fun ⟨⟨n, t'⟩, ⟨h1, h2⟩, h3⟩ => by subst h3; exact h2 ▸ h1⟩
  · rintro ⟨n, t⟩ ⟨h1, h2⟩
    simp only at h2
    subst h2
    rfl
theorem Codec.mark : Codec markS markB (fun _ => True) := by
  refine ⟨fun bs p => by simp [markS, byteS], fun bs p g p' hp => ?_⟩
  have hi := Codec.byte.iff bs p
  unfold markS
  generalize byteS bs (p, false) = r at hi
  obtain ⟨c, q, d⟩ := r
  simp only [Prod.mk.injEq, Bool.or_eq_false_iff, decide_eq_false_iff_not, true_and]
  constructor
  · rintro ⟨rfl, rfl, rfl, h⟩
    obtain ⟨h1, h2, h3⟩ := (hi c q hp).1 rfl
    have hc : c = 0 ∨ c = 1 := by omega
    rcases hc with rfl | rfl <;> exact ⟨h2, h3⟩
  · rintro ⟨rfl, h⟩
    have := (hi (if g then 1 else 0) (p + 1) hp).2 ⟨by split <;> omega, rfl, by cases g <;> exact h⟩
    simp only [Prod.mk.injEq] at this
    obtain ⟨rfl, rfl, rfl⟩ := this
    cases g <;> simp [markB]

/-- A number's bytes, the lowest first. -/
def leB : Nat → Nat → List UInt8
  | 0, _ => []
  | n + 1, x => UInt8.ofNat (x % 256) :: leB n (x / 256)
def numR (n : Nat) (bs : List UInt8) (s : Nat × Bool) : Nat × (Nat × Bool) := match n with
  | 0 => (0, s)
  | n + 1 => ((byteS bs s).1 + 256 * (numR n bs (byteS bs s).2).1, (numR n bs (byteS bs s).2).2)
theorem numS_R {bs : List UInt8} : ∀ (n i x : Nat) (s : Nat × Bool), numS bs n i x s = (x + 2 ^ (8 * i) * (numR n bs s).1, (numR n bs s).2) := by
  intro n
  induction n with
  | zero => intro i x s; simp [numS, numR]
  | succ n ih =>
    intro i x s
    simp only [numS, numR, ih]
    rw [Nat.mul_add 8 i 1, Nat.pow_add]
    congr 1
    rw [Nat.mul_add, ← Nat.mul_assoc, Nat.mul_comm (byteS bs s).1, Nat.add_assoc]
theorem Codec.numR : ∀ n, Codec (numR n) (leB n) (· < 256 ^ n) := by
  intro n
  induction n with
  | zero =>
    refine (Codec.pure 0).congr (fun _ _ => rfl) (fun x => ?_) (fun _ _ => rfl)
    simp
  | succ n ih =>
    refine ((Codec.byte.bind (g := fun _ => LF.numR n) (v := fun _ => leB n) (okg := fun _ x => x < 256 ^ n) (fun _ bs p => ih.bad bs p) fun _ _ => ih).map (fun xy => xy.1 + 256 * xy.2) (w' := leB (n + 1)) (ok' := (· < 256 ^ (n + 1))) ?_ ?_).congr (fun bs s => rfl) (fun _ => Iff.rfl) (fun _ _ => rfl)
    · intro y
      rw [Nat.pow_succ]
      constructor
      · intro h
        exact ⟨(y % 256, y / 256), ⟨Nat.mod_lt _ (by decide), Nat.div_lt_of_lt_mul (by rw [Nat.mul_comm]; exact h)⟩, by simp only; omega⟩
      · rintro ⟨⟨x, z⟩, ⟨h1, h2⟩, rfl⟩
        simp only at h1 h2 ⊢
        omega
    · rintro ⟨x, z⟩ ⟨h1, h2⟩
      simp only at h1 h2 ⊢
      simp only [leB]
      rw [show (x + 256 * z) % 256 = x by omega, show (x + 256 * z) / 256 = z by omega]
      rfl
theorem Codec.num (n : Nat) : Codec (fun bs s => numS bs n 0 0 s) (leB n) (· < 256 ^ n) :=
  (Codec.numR n).congr (fun bs s => by rw [numS_R]; simp) (fun _ => Iff.rfl) (fun _ _ => rfl)

/-- A batch's write. -/
def wrB (x : Wr) : List UInt8 := textB x.key ++ (markB x.gone ++ if x.gone then [] else textB x.val)
def wrOK (x : Wr) : Prop := x.key.size < 256 ∧ x.val.size < 256 ∧ (x.gone = true → x.val = noBytes)
def wrS (bs : List UInt8) (s : Nat × Bool) : Wr × (Nat × Bool) :=
    let k := textS bs s
    let g := markS bs k.2
    let v := if g.1 then (noBytes, g.2) else textS bs g.2
    (⟨k.1, v.1, g.1⟩, v.2)
theorem Codec.opt (g : Bool) : Codec (fun bs s => if g then (noBytes, s) else textS bs s) (fun t => if g then [] else textB t) (fun t => t.size < 256 ∧ (g = true → t = noBytes)) := by
  cases g with
  | true => exact (Codec.pure noBytes).congr (fun _ _ => rfl) (fun t => ⟨fun h => h.2 rfl, fun h => ⟨by rw [h]; decide, fun _ => h⟩⟩) (fun _ _ => rfl)
  | false => exact Codec.text.congr (fun _ _ => rfl) (fun t => ⟨fun h => h.1, fun h => ⟨h, fun h => by cases h⟩⟩) (fun _ _ => rfl)
theorem Codec.opt' (g : Bool) : Codec (fun bs s => if g then textS bs s else (noBytes, s)) (fun t => if g then textB t else []) (fun t => t.size < 256 ∧ (g = false → t = noBytes)) := by
  cases g with
  | false => exact (Codec.pure noBytes).congr (fun _ _ => rfl) (fun t => ⟨fun h => h.2 rfl, fun h => ⟨by rw [h]; decide, fun _ => h⟩⟩) (fun _ _ => rfl)
  | true => exact Codec.text.congr (fun _ _ => rfl) (fun t => ⟨fun h => h.1, fun h => ⟨h, fun h => by cases h⟩⟩) (fun _ _ => rfl)
theorem Codec.wr : Codec wrS wrB wrOK := by
  refine ((Codec.text.bind (g := fun _ bs s => (((markS bs s).1, (if (markS bs s).1 then (noBytes, (markS bs s).2) else textS bs (markS bs s).2).1), (if (markS bs s).1 then (noBytes, (markS bs s).2) else textS bs (markS bs s).2).2))
    (fun _ bs p => ?_) fun _ _ => Codec.mark.bind (g := fun g bs s => if g then (noBytes, s) else textS bs s) (fun g bs p => (Codec.opt g).bad bs p) fun g _ => Codec.opt g).map (fun x => (⟨x.1, x.2.2, x.2.1⟩ : Wr)) (w' := wrB) (ok' := wrOK) ?_ ?_).congr (fun bs s => rfl) (fun _ => Iff.rfl) (fun _ _ => rfl)
  · exact (Codec.mark.bind (g := fun g bs s => if g then (noBytes, s) else textS bs s) (fun g bs p => (Codec.opt g).bad bs p) fun g _ => Codec.opt g).bad bs p
  · rintro ⟨a, b, c⟩
    exact ⟨fun h => ⟨(a, (c, b)), ⟨h.1, trivial, h.2⟩, rfl⟩, fun ⟨⟨a', c', b'⟩, ⟨h1, _, h2⟩, e⟩ => by cases e; exact ⟨h1, h2⟩⟩
  · rintro ⟨a, c, b⟩ _
    rfl
theorem Codec.writes : ∀ n, Codec (fun bs s => writesS bs n s) (fun l => l.flatMap wrB) (fun l => l.length = n ∧ ∀ x ∈ l, wrOK x) := by
  intro n
  induction n with
  | zero =>
    refine (Codec.pure []).congr (fun _ _ => rfl) (fun l => ?_) (fun l h => by rw [h]; rfl)
    constructor
    · rintro ⟨h, _⟩; exact List.length_eq_zero_iff.1 h
    · rintro rfl; exact ⟨rfl, by simp⟩
  | succ n ih =>
    refine ((Codec.wr.bind (g := fun _ bs s => writesS bs n s) (fun _ bs p => ih.bad bs p) fun _ _ => ih).map (fun x => x.1 :: x.2) (w' := fun l => l.flatMap wrB) (ok' := fun l => l.length = n + 1 ∧ ∀ x ∈ l, wrOK x) ?_ ?_).congr (fun bs s => rfl) (fun _ => Iff.rfl) (fun _ _ => rfl)
    · intro l
      cases l with
      | nil => simp
      | cons a l =>
        constructor
        · rintro ⟨h1, h2⟩
          exact ⟨(a, l), ⟨h2 a (by simp), by simpa using h1, fun x hx => h2 x (List.mem_cons_of_mem _ hx)⟩, rfl⟩
        · rintro ⟨⟨a', l'⟩, ⟨h1, h2, h3⟩, e⟩
          cases e
          simp only at h1 h2 h3
          exact ⟨by simp [h2], fun x hx => (List.mem_cons.1 hx).elim (fun e => e ▸ h1) (h3 x)⟩
    · rintro ⟨a, l⟩ _
      rfl

/-- An operation's bytes behind its kind; an operation that may be read. -/
def opB (x : OpV) : List UInt8 :=
  if x.kind = 1 ∨ x.kind = 3 then textB x.key
  else if x.kind = 2 then textB x.key ++ textB x.val
  else if x.kind = 4 then textB x.key ++ (textB x.val ++ (markB x.had ++ if x.had then textB x.old else []))
  else if x.kind = 5 then textB x.key ++ markB x.after
  else if x.kind = 6 then UInt8.ofNat x.writes.length :: x.writes.flatMap wrB
  else []
def opOK (x : OpV) : Prop :=
  if x.kind = 1 ∨ x.kind = 3 then x = { noOp with kind := x.kind, key := x.key } ∧ x.key.size < 256
  else if x.kind = 2 then x = { noOp with kind := x.kind, key := x.key, val := x.val } ∧ x.key.size < 256 ∧ x.val.size < 256
  else if x.kind = 4 then x = { noOp with kind := x.kind, key := x.key, val := x.val, had := x.had, old := x.old } ∧ x.key.size < 256 ∧ x.val.size < 256 ∧ x.old.size < 256 ∧ (x.had = false → x.old = noBytes)
  else if x.kind = 5 then x = { noOp with kind := x.kind, key := x.key, after := x.after } ∧ x.key.size < 256
  else if x.kind = 6 then x = { noOp with kind := x.kind, writes := x.writes } ∧ x.writes.length < 256 ∧ ∀ w ∈ x.writes, wrOK w
  else False
def opT (k : Nat) (bs : List UInt8) (s : Nat × Bool) : OpV × (Nat × Bool) :=
  if k = 1 ∨ k = 3 then
    let t := textS bs s
    ({ noOp with kind := k, key := t.1 }, t.2)
  else if k = 2 then
    let t := textS bs s
    let u := textS bs t.2
    ({ noOp with kind := k, key := t.1, val := u.1 }, u.2)
  else if k = 4 then
    let t := textS bs s
    let u := textS bs t.2
    let g := markS bs u.2
    let v := if g.1 then textS bs g.2 else (noBytes, g.2)
    ({ noOp with kind := k, key := t.1, val := u.1, had := g.1, old := v.1 }, v.2)
  else if k = 5 then
    let t := textS bs s
    let g := markS bs t.2
    ({ noOp with kind := k, key := t.1, after := g.1 }, g.2)
  else if k = 6 then
    let n := byteS bs s
    let w := writesS bs n.1 n.2
    ({ noOp with kind := k, writes := w.1 }, w.2)
  else ({ noOp with kind := k }, (s.1, true))
theorem opS_T (bs : List UInt8) (s : Nat × Bool) : opS bs s = opT (byteS bs s).1 bs (byteS bs s).2 := rfl

theorem Codec.opT (k : Nat) : Codec (opT k) opB (fun x => x.kind = (k : Int) ∧ opOK x) := by
  by_cases h1 : k = 1 ∨ k = 3
  · refine (Codec.text.map (fun t => { noOp with kind := (k : Int), key := t }) ?_ ?_).congr (fun bs s => by rw [LF.opT, if_pos h1]) (fun _ => Iff.rfl) (fun _ _ => rfl)
    · intro y
      have hk : (k : Int) = 1 ∨ (k : Int) = 3 := by omega
      constructor
      · rintro ⟨e, h⟩
        rw [opOK, if_pos (by rw [e]; exact hk)] at h
        exact ⟨y.key, h.2, by rw [← e]; exact h.1.symm⟩
      · rintro ⟨t, h, rfl⟩
        refine ⟨rfl, ?_⟩
        rw [opOK, if_pos hk]
        exact ⟨rfl, h⟩
    · intro t _
      have hk : (k : Int) = 1 ∨ (k : Int) = 3 := by omega
      rw [opB, if_pos hk]
  have k1 : ¬ ((k : Int) = 1 ∨ (k : Int) = 3) := by omega
  by_cases h2 : k = 2
  · have k2 : (k : Int) = 2 := by omega
    refine ((Codec.text.bind (g := fun _ => textS) (fun _ bs p => Codec.text.bad bs p) fun _ _ => Codec.text).map (fun t => { noOp with kind := (k : Int), key := t.1, val := t.2 }) ?_ ?_).congr (fun bs s => by rw [LF.opT, if_neg h1, if_pos h2]) (fun _ => Iff.rfl) (fun _ _ => rfl)
    · intro y
      constructor
      · rintro ⟨e, h⟩
        rw [opOK, if_neg (by rw [e]; exact k1), if_pos (by rw [e]; exact k2)] at h
        exact ⟨(y.key, y.val), h.2, by rw [← e]; exact h.1.symm⟩
      · rintro ⟨t, h, rfl⟩
        refine ⟨rfl, ?_⟩
        rw [opOK, if_neg k1, if_pos k2]
        exact ⟨rfl, h⟩
    · intro t _
      rw [opB, if_neg k1, if_pos k2]
  have k2 : ¬ (k : Int) = 2 := by omega
  by_cases h4 : k = 4
  · have k4 : (k : Int) = 4 := by omega
    have c1 := Codec.mark.bind (g := fun g bs s => if g then textS bs s else (noBytes, s)) (fun g bs p => (Codec.opt' g).bad bs p) fun g _ => Codec.opt' g
    have c2 := Codec.text.bind' c1
    refine ((Codec.text.bind' c2).map (fun t => { noOp with kind := (k : Int), key := t.1, val := t.2.1, had := t.2.2.1, old := t.2.2.2 }) ?_ ?_).congr (fun bs s => by rw [LF.opT, if_neg h1, if_neg h2, if_pos h4]) (fun _ => Iff.rfl) (fun _ _ => rfl)
    · intro y
      constructor
      · rintro ⟨e, h⟩
        rw [opOK, if_neg (by rw [e]; exact k1), if_neg (by rw [e]; exact k2), if_pos (by rw [e]; exact k4)] at h
        exact ⟨(y.key, y.val, y.had, y.old), ⟨h.2.1, h.2.2.1, trivial, h.2.2.2.1, h.2.2.2.2⟩, by rw [← e]; exact h.1.symm⟩
      · rintro ⟨t, h, rfl⟩
        refine ⟨rfl, ?_⟩
        rw [opOK, if_neg k1, if_neg k2, if_pos k4]
        exact ⟨rfl, h.1, h.2.1, h.2.2.2.1, h.2.2.2.2⟩
    · intro t _
      rw [opB, if_neg k1, if_neg k2, if_pos k4]
  have k4 : ¬ (k : Int) = 4 := by omega
  by_cases h5 : k = 5
  · have k5 : (k : Int) = 5 := by omega
    refine ((Codec.text.bind (g := fun _ => markS) (fun _ bs p => Codec.mark.bad bs p) fun _ _ => Codec.mark).map (fun t => { noOp with kind := (k : Int), key := t.1, after := t.2 }) ?_ ?_).congr (fun bs s => by rw [LF.opT, if_neg h1, if_neg h2, if_neg h4, if_pos h5]) (fun _ => Iff.rfl) (fun _ _ => rfl)
    · intro y
      constructor
      · rintro ⟨e, h⟩
        rw [opOK, if_neg (by rw [e]; exact k1), if_neg (by rw [e]; exact k2), if_neg (by rw [e]; exact k4), if_pos (by rw [e]; exact k5)] at h
        exact ⟨(y.key, y.after), ⟨h.2, trivial⟩, by rw [← e]; exact h.1.symm⟩
      · rintro ⟨t, h, rfl⟩
        refine ⟨rfl, ?_⟩
        rw [opOK, if_neg k1, if_neg k2, if_neg k4, if_pos k5]
        exact ⟨rfl, h.1⟩
    · intro t _
      rw [opB, if_neg k1, if_neg k2, if_neg k4, if_pos k5]
  have k5 : ¬ (k : Int) = 5 := by omega
  by_cases h6 : k = 6
  · have k6 : (k : Int) = 6 := by omega
    refine ((Codec.byte.bind (g := fun n bs s => writesS bs n s) (fun n bs p => (Codec.writes n).bad bs p) fun n _ => Codec.writes n).map (fun t => { noOp with kind := (k : Int), writes := t.2 }) ?_ ?_).congr (fun bs s => by rw [LF.opT, if_neg h1, if_neg h2, if_neg h4, if_neg h5, if_pos h6]) (fun _ => Iff.rfl) (fun _ _ => rfl)
    · intro y
      constructor
      · rintro ⟨e, h⟩
        rw [opOK, if_neg (by rw [e]; exact k1), if_neg (by rw [e]; exact k2), if_neg (by rw [e]; exact k4), if_neg (by rw [e]; exact k5), if_pos (by rw [e]; exact k6)] at h
        exact ⟨(y.writes.length, y.writes), ⟨h.2.1, rfl, h.2.2⟩, by rw [← e]; exact h.1.symm⟩
      · rintro ⟨⟨n, l⟩, ⟨h, e, h'⟩, rfl⟩
        have e : l.length = n := e
        subst e
        refine ⟨rfl, ?_⟩
        rw [opOK, if_neg k1, if_neg k2, if_neg k4, if_neg k5, if_pos k6]
        exact ⟨rfl, h, h'⟩
    · rintro ⟨n, l⟩ ⟨_, e, _⟩
      have e : l.length = n := e
      subst e
      rw [opB, if_neg k1, if_neg k2, if_neg k4, if_neg k5, if_pos k6]
      rfl
  have k6 : ¬ (k : Int) = 6 := by omega
  refine (Codec.never (f := LF.opT k) (fun bs s => by rw [LF.opT, if_neg h1, if_neg h2, if_neg h4, if_neg h5, if_neg h6]) opB).congr (fun _ _ => rfl) (fun x => ?_) (fun _ _ => rfl)
  constructor
  · rintro ⟨e, h⟩
    rw [opOK, if_neg (by rw [e]; exact k1), if_neg (by rw [e]; exact k2), if_neg (by rw [e]; exact k4), if_neg (by rw [e]; exact k5), if_neg (by rw [e]; exact k6)] at h
    exact h
  · exact False.elim
theorem opOK_kind {x : OpV} (h : opOK x) : 1 ≤ x.kind ∧ x.kind ≤ 6 := by
  unfold opOK at h
  split at h
  · omega
  split at h
  · omega
  split at h
  · omega
  split at h
  · omega
  split at h
  · omega
  · exact h.elim
theorem Codec.op : Codec opS (fun x => UInt8.ofNat x.kind.toNat :: opB x) opOK := by
  refine ((Codec.byte.bind (g := LF.opT) (fun k bs p => (Codec.opT k).bad bs p) fun k _ => Codec.opT k).map Prod.snd ?_ ?_).congr (fun bs s => rfl) (fun _ => Iff.rfl) (fun _ _ => rfl)
  · intro y
    constructor
    · intro h
      have := opOK_kind h
      exact ⟨(y.kind.toNat, y), ⟨by simp only; omega, by simp only; omega, h⟩, rfl⟩
    · rintro ⟨⟨k, x⟩, ⟨_, _, h⟩, rfl⟩
      exact h
  · rintro ⟨k, x⟩ ⟨h, e, _⟩
    simp only at e ⊢
    rw [e]
    rfl

/-- An entry's bytes behind its kind; an entry that may be read. -/
def enB (x : En) : List UInt8 :=
  if x.kind = 1 then UInt8.ofNat x.op.kind.toNat :: opB x.op
  else if x.kind = 2 then leB 2 x.a.toNat
  else if x.kind = 3 then [UInt8.ofNat x.a.toNat] ++ [UInt8.ofNat x.b.toNat]
  else if x.kind = 4 ∨ x.kind = 5 then [UInt8.ofNat x.a.toNat]
  else if x.kind = 6 then leB 4 x.a.toNat
  else []
def inN (n : Int) (m : Nat) : Prop := 0 ≤ n ∧ n < m
def enOK (x : En) : Prop :=
  if x.kind = 1 then x = ⟨x.kind, 0, 0, x.op⟩ ∧ opOK x.op
  else if x.kind = 2 then x = ⟨x.kind, x.a, 0, noOp⟩ ∧ inN x.a 65536
  else if x.kind = 3 then x = ⟨x.kind, x.a, x.b, noOp⟩ ∧ inN x.a 256 ∧ inN x.b 256
  else if x.kind = 4 ∨ x.kind = 5 then x = ⟨x.kind, x.a, 0, noOp⟩ ∧ inN x.a 256
  else if x.kind = 6 then x = ⟨x.kind, x.a, 0, noOp⟩ ∧ inN x.a 4294967296
  else False
def enT (k : Nat) (bs : List UInt8) (s : Nat × Bool) : En × (Nat × Bool) :=
  if k = 1 then
    let t := opS bs s
    (⟨k, 0, 0, t.1⟩, t.2)
  else if k = 2 then
    let t := numS bs 2 0 0 s
    (⟨k, t.1, 0, noOp⟩, t.2)
  else if k = 3 then
    let t := byteS bs s
    let u := byteS bs t.2
    (⟨k, t.1, u.1, noOp⟩, u.2)
  else if k = 4 ∨ k = 5 then
    let t := byteS bs s
    (⟨k, t.1, 0, noOp⟩, t.2)
  else if k = 6 then
    let t := numS bs 4 0 0 s
    (⟨k, t.1, 0, noOp⟩, t.2)
  else (⟨k, 0, 0, noOp⟩, (s.1, true))
theorem enS_T (bs : List UInt8) (s : Nat × Bool) : enS bs s = enT (byteS bs s).1 bs (byteS bs s).2 := rfl

theorem Codec.enT (k : Nat) : Codec (enT k) enB (fun x => x.kind = (k : Int) ∧ enOK x) := by
  by_cases h1 : k = 1
  · have k1 : (k : Int) = 1 := by omega
    refine (Codec.op.map (fun t => (⟨(k : Int), 0, 0, t⟩ : En)) ?_ ?_).congr (fun bs s => by rw [LF.enT, if_pos h1]) (fun _ => Iff.rfl) (fun _ _ => rfl)
    · intro y
      constructor
      · rintro ⟨e, h⟩
        rw [enOK, if_pos (by rw [e]; exact k1)] at h
        exact ⟨y.op, h.2, by rw [← e]; exact h.1.symm⟩
      · rintro ⟨t, h, rfl⟩
        refine ⟨rfl, ?_⟩
        rw [enOK, if_pos k1]
        exact ⟨rfl, h⟩
    · intro t _
      rw [enB, if_pos k1]
  have k1 : ¬ (k : Int) = 1 := by omega
  have hN : ∀ {m : Nat} {x : Nat}, x < m ↔ inN (x : Int) m := fun {m x} => by unfold inN; omega
  by_cases h2 : k = 2
  · have k2 : (k : Int) = 2 := by omega
    refine ((Codec.num 2).map (fun t => (⟨(k : Int), (t : Int), 0, noOp⟩ : En)) ?_ ?_).congr (fun bs s => by rw [LF.enT, if_neg h1, if_pos h2]) (fun _ => Iff.rfl) (fun _ _ => rfl)
    · intro y
      constructor
      · rintro ⟨e, h⟩
        rw [enOK, if_neg (by rw [e]; exact k1), if_pos (by rw [e]; exact k2)] at h
        obtain ⟨h, hn⟩ := h
        obtain ⟨n, hn'⟩ := Int.eq_ofNat_of_zero_le hn.1
        exact ⟨n, by have := hn.2; rw [hn'] at this; exact Int.ofNat_lt.1 this, by rw [← e, ← hn']; exact h.symm⟩
      · rintro ⟨t, h, rfl⟩
        refine ⟨rfl, ?_⟩
        rw [enOK, if_neg k1, if_pos k2]
        exact ⟨rfl, hN.1 h⟩
    · intro t _
      rw [enB, if_neg k1, if_pos k2]
      rfl
  have k2 : ¬ (k : Int) = 2 := by omega
  by_cases h3 : k = 3
  · have k3 : (k : Int) = 3 := by omega
    refine ((Codec.byte.bind (g := fun _ => byteS) (fun _ bs p => Codec.byte.bad bs p) fun _ _ => Codec.byte).map (fun t => (⟨(k : Int), (t.1 : Int), (t.2 : Int), noOp⟩ : En)) ?_ ?_).congr (fun bs s => by rw [LF.enT, if_neg h1, if_neg h2, if_pos h3]) (fun _ => Iff.rfl) (fun _ _ => rfl)
    · intro y
      constructor
      · rintro ⟨e, h⟩
        rw [enOK, if_neg (by rw [e]; exact k1), if_neg (by rw [e]; exact k2), if_pos (by rw [e]; exact k3)] at h
        obtain ⟨h, hn, hm⟩ := h
        obtain ⟨n, hn'⟩ := Int.eq_ofNat_of_zero_le hn.1
        obtain ⟨m, hm'⟩ := Int.eq_ofNat_of_zero_le hm.1
        exact ⟨(n, m), ⟨by have := hn.2; rw [hn'] at this; exact Int.ofNat_lt.1 this, by have := hm.2; rw [hm'] at this; exact Int.ofNat_lt.1 this⟩, by simp only; rw [← e, ← hn', ← hm']; exact h.symm⟩
      · rintro ⟨t, h, rfl⟩
        refine ⟨rfl, ?_⟩
        rw [enOK, if_neg k1, if_neg k2, if_pos k3]
        exact ⟨rfl, hN.1 h.1, hN.1 h.2⟩
    · intro t _
      rw [enB, if_neg k1, if_neg k2, if_pos k3]
      rfl
  have k3 : ¬ (k : Int) = 3 := by omega
  by_cases h4 : k = 4 ∨ k = 5
  · have k4 : (k : Int) = 4 ∨ (k : Int) = 5 := by omega
    refine (Codec.byte.map (fun t => (⟨(k : Int), (t : Int), 0, noOp⟩ : En)) ?_ ?_).congr (fun bs s => by rw [LF.enT, if_neg h1, if_neg h2, if_neg h3, if_pos h4]) (fun _ => Iff.rfl) (fun _ _ => rfl)
    · intro y
      constructor
      · rintro ⟨e, h⟩
        rw [enOK, if_neg (by rw [e]; exact k1), if_neg (by rw [e]; exact k2), if_neg (by rw [e]; exact k3), if_pos (by rw [e]; exact k4)] at h
        obtain ⟨h, hn⟩ := h
        obtain ⟨n, hn'⟩ := Int.eq_ofNat_of_zero_le hn.1
        exact ⟨n, by have := hn.2; rw [hn'] at this; exact Int.ofNat_lt.1 this, by rw [← e, ← hn']; exact h.symm⟩
      · rintro ⟨t, h, rfl⟩
        refine ⟨rfl, ?_⟩
        rw [enOK, if_neg k1, if_neg k2, if_neg k3, if_pos k4]
        exact ⟨rfl, hN.1 h⟩
    · intro t _
      rw [enB, if_neg k1, if_neg k2, if_neg k3, if_pos k4]
      rfl
  have k4 : ¬ ((k : Int) = 4 ∨ (k : Int) = 5) := by omega
  by_cases h6 : k = 6
  · have k6 : (k : Int) = 6 := by omega
    refine ((Codec.num 4).map (fun t => (⟨(k : Int), (t : Int), 0, noOp⟩ : En)) ?_ ?_).congr (fun bs s => by rw [LF.enT, if_neg h1, if_neg h2, if_neg h3, if_neg h4, if_pos h6]) (fun _ => Iff.rfl) (fun _ _ => rfl)
    · intro y
      constructor
      · rintro ⟨e, h⟩
        rw [enOK, if_neg (by rw [e]; exact k1), if_neg (by rw [e]; exact k2), if_neg (by rw [e]; exact k3), if_neg (by rw [e]; exact k4), if_pos (by rw [e]; exact k6)] at h
        obtain ⟨h, hn⟩ := h
        obtain ⟨n, hn'⟩ := Int.eq_ofNat_of_zero_le hn.1
        exact ⟨n, by have := hn.2; rw [hn'] at this; exact Int.ofNat_lt.1 this, by rw [← e, ← hn']; exact h.symm⟩
      · rintro ⟨t, h, rfl⟩
        refine ⟨rfl, ?_⟩
        rw [enOK, if_neg k1, if_neg k2, if_neg k3, if_neg k4, if_pos k6]
        exact ⟨rfl, hN.1 h⟩
    · intro t _
      rw [enB, if_neg k1, if_neg k2, if_neg k3, if_neg k4, if_pos k6]
      rfl
  have k6 : ¬ (k : Int) = 6 := by omega
  refine (Codec.never (f := LF.enT k) (fun bs s => by rw [LF.enT, if_neg h1, if_neg h2, if_neg h3, if_neg h4, if_neg h6]) enB).congr (fun _ _ => rfl) (fun x => ?_) (fun _ _ => rfl)
  constructor
  · rintro ⟨e, h⟩
    rw [enOK, if_neg (by rw [e]; exact k1), if_neg (by rw [e]; exact k2), if_neg (by rw [e]; exact k3), if_neg (by rw [e]; exact k4), if_neg (by rw [e]; exact k6)] at h
    exact h
  · exact False.elim
theorem enOK_kind {x : En} (h : enOK x) : 1 ≤ x.kind ∧ x.kind ≤ 6 := by
  unfold enOK at h
  split at h
  · omega
  split at h
  · omega
  split at h
  · omega
  split at h
  · omega
  split at h
  · omega
  · exact h.elim
/-- An entry's bytes. -/
def enBytes (x : En) : List UInt8 := UInt8.ofNat x.kind.toNat :: enB x
theorem Codec.en : Codec enS enBytes enOK := by
  refine ((Codec.byte.bind (g := LF.enT) (fun k bs p => (Codec.enT k).bad bs p) fun k _ => Codec.enT k).map Prod.snd ?_ ?_).congr (fun bs s => rfl) (fun _ => Iff.rfl) (fun _ _ => rfl)
  · intro y
    constructor
    · intro h
      have := enOK_kind h
      exact ⟨(y.kind.toNat, y), ⟨by simp only; omega, by simp only; omega, h⟩, rfl⟩
    · rintro ⟨⟨k, x⟩, ⟨_, _, h⟩, rfl⟩
      exact h
  · rintro ⟨k, x⟩ ⟨h, e, _⟩
    simp only at e ⊢
    rw [enBytes, e]
    rfl

/-- What is read of bytes, from a place on. -/
def dec (bs : List UInt8) (p : Nat) : List En := decS bs bs.length p
theorem decS_fuel {bs : List UInt8} : ∀ (n m p : Nat), bs.length ≤ p + n → bs.length ≤ p + m → decS bs n p = decS bs m p := by
  intro n
  induction n with
  | zero =>
    intro m p h _
    rw [decS_end (n := 0) (by omega), decS_end (n := m) (by omega)]
  | succ n ih =>
    intro m p hn hm
    by_cases hp : bs.length ≤ p
    · rw [decS_end hp, decS_end hp]
    cases m with
    | zero => omega
    | succ m =>
      have hlt : p < bs.length := by omega
      have hgt := enS_gt hlt
      obtain ⟨x, p', d, e⟩ : ∃ x p' d, enS bs (p, false) = (x, (p', d)) := ⟨_, _, _, rfl⟩
      rw [e] at hgt
      have hgt : p + 1 ≤ p' := hgt
      cases d with
      | true => rw [decS_bad hlt e, decS_bad hlt e]; exact ih m (p + 1) (by omega) (by omega)
      | false => rw [decS_go hlt e, decS_go hlt e]; rw [ih m p' (by omega) (by omega)]
theorem dec_end {bs : List UInt8} {p : Nat} (h : bs.length ≤ p) : dec bs p = [] := decS_end h
theorem dec_bad {bs : List UInt8} {p p' : Nat} {x : En} (h : p < bs.length) (e : enS bs (p, false) = (x, (p', true))) : dec bs p = dec bs (p + 1) := by
  unfold dec
  rw [decS_fuel bs.length (bs.length + 1) p (by omega) (by omega), decS_bad h e]
theorem dec_go {bs : List UInt8} {p p' : Nat} {x : En} (h : p < bs.length) (e : enS bs (p, false) = (x, (p', false))) : dec bs p = x :: dec bs p' := by
  unfold dec
  rw [decS_fuel bs.length (bs.length + 1) p (by omega) (by omega), decS_go h e]
theorem decodeS_dec (bs : List UInt8) : decodeS bs = dec (bs.take 16384) 0 := rfl
theorem dec_ok {bs : List UInt8} {p : Nat} {x : En} (hp : p ≤ bs.length) (hx : enOK x) (h : enBytes x <+: bs.drop p) : dec bs p = x :: dec bs (p + (enBytes x).length) := by
  have := pre_le h hp
  have h0 : 0 < (enBytes x).length := by simp [enBytes]
  exact dec_go (by omega) ((Codec.en.iff bs p x _ hp).2 ⟨hx, rfl, h⟩)
/-- Bytes ahead of the place don't count. -/
theorem dec_shift (pre bs : List UInt8) : ∀ (n p : Nat), bs.length ≤ p + n → dec (pre ++ bs) (pre.length + p) = dec bs p := by
  intro n
  induction n using Nat.strongRecOn with
  | _ n ih =>
    intro p hn
    by_cases hp : bs.length ≤ p
    · rw [dec_end hp, dec_end (by rw [List.length_append]; omega)]
    have hlt : p < bs.length := by omega
    have hlt' : pre.length + p < (pre ++ bs).length := by rw [List.length_append]; omega
    have hgt := enS_gt hlt
    have hd : (pre ++ bs).drop (pre.length + p) = bs.drop p := by rw [← List.drop_drop, List.drop_left]
    obtain ⟨x, p', d, e⟩ : ∃ x p' d, enS bs (p, false) = (x, (p', d)) := ⟨_, _, _, rfl⟩
    rw [e] at hgt
    have hgt : p + 1 ≤ p' := hgt
    cases d with
    | true =>
      rw [dec_bad hlt e]
      obtain ⟨x', q, d', e'⟩ : ∃ x q d, enS (pre ++ bs) (pre.length + p, false) = (x, (q, d)) := ⟨_, _, _, rfl⟩
      cases d' with
      | true => rw [dec_bad hlt' e', Nat.add_assoc]; exact ih (n - 1) (by omega) (p + 1) (by omega)
      | false =>
        obtain ⟨h1, h2, h3⟩ := (Codec.en.iff _ _ _ _ (by omega)).1 e'
        rw [hd] at h3
        rw [(Codec.en.iff bs p x' _ (by omega)).2 ⟨h1, rfl, h3⟩] at e
        cases e
    | false =>
      rw [dec_go hlt e]
      obtain ⟨h1, rfl, h3⟩ := (Codec.en.iff _ _ _ _ (by omega)).1 e
      rw [← hd] at h3
      rw [dec_ok (by omega) h1 h3, Nat.add_assoc, ih (n - 1) (by omega) _ (by omega)]
theorem dec_app (pre bs : List UInt8) : dec (pre ++ bs) pre.length = dec bs 0 := dec_shift pre bs bs.length 0 (by omega)
theorem dec_cons {x : En} (hx : enOK x) (rest : List UInt8) : dec (enBytes x ++ rest) 0 = x :: dec rest 0 := by
  rw [dec_ok (Nat.zero_le _) hx (by rw [List.drop_zero]; exact List.prefix_append _ _), Nat.zero_add, dec_app]
/-- A list's bytes. -/
def lBytes (l : List En) : List UInt8 := l.flatMap enBytes
theorem lBytes_cons (x : En) (l : List En) : lBytes (x :: l) = enBytes x ++ lBytes l := rfl
theorem lBytes_app (l m : List En) : lBytes (l ++ m) = lBytes l ++ lBytes m := by simp [lBytes]
theorem dec_list {l : List En} (h : ∀ x ∈ l, enOK x) (rest : List UInt8) : dec (lBytes l ++ rest) 0 = l ++ dec rest 0 := by
  induction l with
  | nil => rfl
  | cons x l ih =>
    rw [lBytes_cons, List.append_assoc, dec_cons (h x (by simp)), ih fun y hy => h y (List.mem_cons_of_mem _ hy)]
    rfl
theorem dec_nil : dec [] 0 = [] := dec_end (Nat.le_refl _)
theorem dec_lBytes {l : List En} (h : ∀ x ∈ l, enOK x) : dec (lBytes l) 0 = l := by
  have := dec_list h []
  rwa [List.append_nil, dec_nil, List.append_nil] at this
/-- A byte with which no entry begins. -/
theorem dec_gap {c : UInt8} (hc : c.toNat = 0 ∨ 6 < c.toNat) (rest : List UInt8) : dec (c :: rest) 0 = dec rest 0 := by
  have h0 : 0 < (c :: rest).length := by simp
  obtain ⟨x, p', d, e⟩ : ∃ x p' d, enS (c :: rest) (0, false) = (x, (p', d)) := ⟨_, _, _, rfl⟩
  cases d with
  | true =>
    rw [dec_bad h0 e]
    exact dec_app [c] rest
  | false =>
    obtain ⟨h1, _, h3⟩ := (Codec.en.iff _ _ _ _ (Nat.zero_le _)).1 e
    have hk := enOK_kind h1
    rw [List.drop_zero, enBytes, List.cons_prefix_cons] at h3
    have := congrArg UInt8.toNat h3.1
    rw [UInt8.toNat_ofNat', Nat.mod_eq_of_lt (by omega)] at this
    omega
theorem dec_gaps {c : UInt8} (hc : c.toNat = 0 ∨ 6 < c.toNat) (n : Nat) (rest : List UInt8) : dec (List.replicate n c ++ rest) 0 = dec rest 0 := by
  induction n with
  | zero => rfl
  | succ n ih => rw [List.replicate_succ, List.cons_append, dec_gap hc, ih]
/-- What is read may be written, and is no longer than what it was read of. -/
theorem dec_right {bs : List UInt8} : ∀ (n p : Nat), p ≤ bs.length → bs.length ≤ p + n → (∀ x ∈ dec bs p, enOK x) ∧ (lBytes (dec bs p)).length ≤ bs.length - p := by
  intro n
  induction n using Nat.strongRecOn with
  | _ n ih =>
    intro p hp hn
    by_cases hge : bs.length ≤ p
    · rw [dec_end hge]; simp [lBytes]
    have hlt : p < bs.length := by omega
    obtain ⟨x, p', d, e⟩ : ∃ x p' d, enS bs (p, false) = (x, (p', d)) := ⟨_, _, _, rfl⟩
    cases d with
    | true =>
      rw [dec_bad hlt e]
      obtain ⟨h1, h2⟩ := ih (n - 1) (by omega) (p + 1) (by omega) (by omega)
      exact ⟨h1, by omega⟩
    | false =>
      have hgt := enS_gt hlt
      rw [e] at hgt
      have hgt : p + 1 ≤ p' := hgt
      obtain ⟨h1, rfl, h3⟩ := (Codec.en.iff _ _ _ _ hp).1 e
      have := pre_le h3 hp
      rw [dec_go hlt e]
      obtain ⟨h4, h5⟩ := ih (n - 1) (by omega) (p + (enBytes x).length) (by omega) (by omega)
      refine ⟨fun y hy => (List.mem_cons.1 hy).elim (fun e => e ▸ h1) (h4 y), ?_⟩
      · rw [lBytes_cons, List.length_append]; omega
end Go.Proofs.Ytbifiagpmoakdaa.LF
