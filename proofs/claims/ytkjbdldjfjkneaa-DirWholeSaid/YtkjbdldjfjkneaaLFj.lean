/- The frame's entrance: what an argument that reads as data is as a logical value. -/
import Derived.Test.YtkjbdldjfjkneaaLFh
set_option linter.unusedVariables false
set_option linter.unusedSimpArgs false
namespace Go.Proofs.Ytkjbdldjfjkneaa.LF
open Go.RowKit

/-- Cells of a type, as logical values. -/
inductive Typed (D : Tab) : TypeId → List LV → Prop
  | bool {t : TypeId} {i : TI} (h : D.get t = some i) (hd : i.desc = .bool) (b : Bool) : Typed D t [.v (.bool b)]
  | int {t : TypeId} {i : TI} {k : IntKind} {n : Int} (h : D.get t = some i) (hd : i.desc = .int k) (wf : (Lit.int k n).wf = true) : Typed D t [.v (.int k n)]
  | string {t : TypeId} {i : TI} {s : ByteArray} (h : D.get t = some i) (hd : i.desc = .string) (hs : s.size ≤ 140737488351232) : Typed D t [.v (.string s)]
  | slice {t e : TypeId} {i j : TI} {es : List (List LV)} (h : D.get t = some i) (hd : i.desc = .slice e) (hj : D.get e = some j) (hall : ∀ c ∈ es, Typed D e c) (hsz : ∀ c ∈ es, c.length = j.size) (hlen : es.length * j.bytes ≤ 140737488351232) (hl : es.length ≤ maxLen) : Typed D t [.sl .sh es]
  | struct {t : TypeId} {i : TI} {fs : Array Field} {l : List LV} (h : D.get t = some i) (hd : i.desc = .struct fs) (hl : l.length = i.size) (hf : ∀ (k : Nat) f j, fs.toList[k]? = some f → D.get f.type = some j → Typed D f.type ((l.drop f.offset).take j.size)) : Typed D t l
  | array {t e : TypeId} {i j : TI} {n : Nat} {l : List LV} (h : D.get t = some i) (hd : i.desc = .array n e) (hj : D.get e = some j) (hl : l.length = n * j.size) (hf : ∀ k, k < n → Typed D e ((l.drop (k * j.size)).take j.size)) : Typed D t l

/-- A struct's fields lie one behind the other. -/
def tiles (D : Tab) : List Field → Nat → Option Nat
  | [], n => some n
  | f :: fs, n => match D.get f.type with
    | none => none
    | some j => bif Nat.beq f.offset n then tiles D fs (n + j.size) else none

def tyOK (D : Tab) : Nat → TypeId → Bool
  | 0, _ => false
  | n + 1, t => match D.get t with
    | none => false
    | some i => match i.desc with
      | .bool => true
      | .int _ => true
      | .string => true
      | .slice e => (match D.get e with | some j => Nat.blt 0 j.size | none => false) && tyOK D n e
      | .struct fs => (tiles D fs.toList 0 == some i.size) && fs.toList.all fun f => tyOK D n f.type
      | .array m e => (match D.get e with | some j => Nat.beq i.size (m * j.size) | none => false) && tyOK D n e
      | _ => false

theorem mapM_opt {α β : Type} {f : α → Option β} : ∀ {l : List α} {r : List β}, l.mapM f = some r → r.length = l.length ∧ ∀ (k : Nat) x, l[k]? = some x → ∃ y, f x = some y ∧ r[k]? = some y := by
  intro l
  induction l with
  | nil => intro r h; obtain rfl : [] = r := by simpa using h
           exact ⟨rfl, by simp⟩
  | cons a l ih =>
    intro r h
    rw [List.mapM_cons] at h
    cases h1 : f a with
    | none => rw [h1] at h; simp at h
    | some b =>
      cases h2 : l.mapM f with
      | none => rw [h1, h2] at h; simp at h
      | some r' =>
        rw [h1, h2] at h
        obtain rfl : b :: r' = r := by simpa using h
        obtain ⟨i1, i2⟩ := ih h2
        refine ⟨by simp [i1], fun k x hk => ?_⟩
        cases k with
        | zero =>
          obtain rfl : a = x := by simpa using hk
          exact ⟨b, h1, rfl⟩
        | succ k => exact i2 k x (by simpa using hk)

theorem skolem {α : Type} [Inhabited α] {n : Nat} {p : Nat → α → Prop} (h : ∀ k, k < n → ∃ x, p k x) : ∃ f : Nat → α, ∀ k, k < n → p k (f k) := by
  classical
  exact ⟨fun k => if hk : k < n then (h k hk).choose else default, fun k hk => by simp only [dif_pos hk]; exact (h k hk).choose_spec⟩

/-- Every cell that there is. -/
def allCells (w : World) : Kept := fun b j => ∃ v, w.cell? ⟨b, j, none⟩ = some v

/-- The cells of one value, as logical values. -/
def Reads (G : Ctx) (w : World) (D : Tab) (t : TypeId) (cs : List Value) (l : List LV) : Prop :=
  Typed D t l ∧ l.length = cs.length ∧ ∀ (j : Nat) x v, l[j]? = some x → cs[j]? = some v → Rep G w (allCells w) x v

theorem reads_parts {G : Ctx} {w : World} {D : Tab} : ∀ (fs : List Field) (n m : Nat) (cs : List Value), tiles D fs n = some m → m = cs.length → n ≤ m →
    (∀ (k : Nat) f j, fs[k]? = some f → D.get f.type = some j → ∃ l, Reads G w D f.type ((cs.drop f.offset).take j.size) l) →
    ∃ l : List LV, l.length = m - n ∧ (∀ (q : Nat) x v, l[q]? = some x → cs[n + q]? = some v → Rep G w (allCells w) x v) ∧
      ∀ (k : Nat) f j, fs[k]? = some f → D.get f.type = some j → n ≤ f.offset ∧ Typed D f.type ((l.drop (f.offset - n)).take j.size) := by
  intro fs
  induction fs with
  | nil =>
    intro n m cs ht hm hnm _
    obtain rfl : n = m := by simpa [tiles] using ht
    exact ⟨[], by simp, by simp, by simp⟩
  | cons f fs ih =>
    intro n m cs ht hm hnm hp
    simp only [tiles] at ht
    cases hj : D.get f.type with
    | none => rw [hj] at ht; cases ht
    | some j =>
      rw [hj] at ht
      simp only at ht
      cases hb : Nat.beq f.offset n with
      | false => rw [hb] at ht; cases ht
      | true =>
        rw [hb] at ht
        have hoff : f.offset = n := Nat.eq_of_beq_eq_true hb
        simp only [cond_true] at ht
        have hle : n + j.size ≤ m := by
          clear ih hp
          have : ∀ (fs : List Field) (a b : Nat), tiles D fs a = some b → a ≤ b := by
            intro fs
            induction fs with
            | nil => intro a b h; obtain rfl : a = b := by simpa [tiles] using h
                     exact Nat.le_refl _
            | cons g gs ih =>
              intro a b h
              simp only [tiles] at h
              cases hg : D.get g.type with
              | none => rw [hg] at h; cases h
              | some i =>
                rw [hg] at h
                simp only at h
                cases hq : Nat.beq g.offset a with
                | false => rw [hq] at h; cases h
                | true => rw [hq] at h; have := ih _ _ h; omega
          exact this _ _ _ ht
        obtain ⟨l2, e1, e2, e3⟩ := ih (n + j.size) m cs ht hm hle (fun k g i hk hi => hp (k + 1) g i hk hi)
        obtain ⟨l1, t1, t2, t3⟩ := hp 0 f j rfl hj
        rw [hoff] at t2 t3
        have hl1 : l1.length = j.size := by rw [t2]; simp; omega
        refine ⟨l1 ++ l2, by simp; omega, fun q x v hq hv => ?_, fun k g i hk hi => ?_⟩
        · by_cases hlt : q < j.size
          · rw [List.getElem?_append_left (by omega)] at hq
            refine t3 q x v hq ?_
            rw [List.getElem?_take, if_pos hlt, List.getElem?_drop]; exact hv
          · rw [List.getElem?_append_right (by omega)] at hq
            refine e2 _ x v hq ?_
            rw [hl1, show n + j.size + (q - j.size) = n + q by omega]; exact hv
        · cases k with
          | zero =>
            obtain rfl : f = g := by simpa using hk
            rw [hj] at hi
            obtain rfl : j = i := by simpa using hi
            refine ⟨by omega, ?_⟩
            rw [hoff, Nat.sub_self, List.drop_zero, List.take_append_of_le_length (by omega), List.take_of_length_le (by omega)]
            exact t1
          | succ k =>
            obtain ⟨h1, h2⟩ := e3 k g i (by simpa using hk) hi
            refine ⟨by omega, ?_⟩
            have : List.drop (g.offset - n) (l1 ++ l2) = List.drop (g.offset - (n + j.size)) l2 := by
              rw [List.drop_append, List.drop_eq_nil_of_le (by omega), List.nil_append]
              congr 1; omega
            rw [this]; exact h2

theorem reads_rows {G : Ctx} {w : World} {D : Tab} {e : TypeId} {z n : Nat} {cs : List Value} (hcs : cs.length = n * z) (hp : ∀ k, k < n → ∃ l, Reads G w D e ((cs.drop (k * z)).take z) l) :
    ∃ l : List LV, l.length = n * z ∧ (∀ (q : Nat) x v, l[q]? = some x → cs[q]? = some v → Rep G w (allCells w) x v) ∧ ∀ k, k < n → Typed D e ((l.drop (k * z)).take z) := by
  induction n generalizing cs with
  | zero => exact ⟨[], by simp, by simp, by omega⟩
  | succ n ih =>
    rw [Nat.add_mul, Nat.one_mul] at hcs
    obtain ⟨l2, e1, e2, e3⟩ := ih (cs := cs.drop z) (by simp; omega) (fun k hk => by
      have := hp (k + 1) (by omega)
      rw [List.drop_drop]
      rw [Nat.add_mul, Nat.one_mul, Nat.add_comm] at this
      exact this)
    obtain ⟨l1, t1, t2, t3⟩ := hp 0 (by omega)
    simp only [Nat.zero_mul, List.drop_zero] at t2 t3
    have hl1 : l1.length = z := by rw [t2]; simp; omega
    refine ⟨l1 ++ l2, by rw [List.length_append, e1, hl1, Nat.add_mul]; omega, fun q x v hq hv => ?_, fun k hk => ?_⟩
    · by_cases hlt : q < z
      · rw [List.getElem?_append_left (by omega)] at hq
        refine t3 q x v hq ?_
        rw [List.getElem?_take, if_pos hlt]; exact hv
      · rw [List.getElem?_append_right (by omega)] at hq
        refine e2 _ x v hq ?_
        rw [List.getElem?_drop, hl1, show z + (q - z) = q by omega]; exact hv
    · cases k with
      | zero =>
        rw [Nat.zero_mul, List.drop_zero, List.take_append_of_le_length (by omega), List.take_of_length_le (by omega)]
        exact t1
      | succ k =>
        have : List.drop ((k + 1) * z) (l1 ++ l2) = List.drop (k * z) l2 := by
          have : z ≤ (k + 1) * z := by rw [Nat.add_mul]; omega
          rw [List.drop_append, List.drop_eq_nil_of_le (by omega), List.nil_append]
          congr 1; rw [Nat.add_mul]; omega
        rw [this]; exact e3 k (by omega)

theorem weightsAll_mem {H : Type} {P : Program} {e : TypeId} : ∀ {ds : List (DataW H)}, (DataW.weightsAll P e ds).all (· ≤ reachBytes) = true → ∀ d ∈ ds, (d.weights P e).all (· ≤ reachBytes) = true := by
  intro ds
  induction ds with
  | nil => intro _ d hd; cases hd
  | cons a ds ih =>
    intro h d hd
    rw [DataW.weightsAll, List.all_append, Bool.and_eq_true] at h
    rcases List.mem_cons.1 hd with rfl | hd
    · exact h.1
    · exact ih h.2 d hd

theorem weightsEach_get {H : Type} {P : Program} : ∀ {ts : List TypeId} {ds : List (DataW H)}, (DataW.weightsEach P ts ds).all (· ≤ reachBytes) = true → ∀ (k : Nat) t d, ts[k]? = some t → ds[k]? = some d → (d.weights P t).all (· ≤ reachBytes) = true := by
  intro ts
  induction ts with
  | nil => intro ds _ k t d h; simp at h
  | cons a ts ih =>
    intro ds h k t d ht hd
    cases ds with
    | nil => simp at hd
    | cons b ds =>
      rw [DataW.weightsEach, List.all_append, Bool.and_eq_true] at h
      cases k with
      | zero =>
        obtain rfl : a = t := by simpa using ht
        obtain rfl : b = d := by simpa using hd
        exact h.1
      | succ k => exact ih h.2 k t d (by simpa using ht) (by simpa using hd)

theorem reads_of {H : Type} {enc : TypeId × Value → H} {G : Ctx} {w : World} {D : Tab} (hD : TabOK G.P D) {base : Nat} {spare : Nat → Bool} {held : Bool} : ∀ (fuel n : Nat) (t : TypeId) (cs : List Value) (x : DataW H) (ps : List MemPlace), tyOK D n t = true →
    DataW.trod enc G.P w base spare held fuel t cs = some (x, ps) → (x.weights G.P t).all (· ≤ reachBytes) = true → ∃ l, Reads G w D t cs l := by
  intro fuel
  induction fuel with
  | zero => intro n t cs x ps _ h; simp [DataW.trod] at h
  | succ fuel ih =>
    intro n t cs x ps hok h hw
    cases n with
    | zero => simp [tyOK] at hok
    | succ n =>
    simp only [tyOK] at hok
    cases hi : D.get t with
    | none => rw [hi] at hok; cases hok
    | some i =>
    rw [hi] at hok
    simp only at hok
    have hu := (hD.get hi).und
    unfold DataW.trod at h
    rw [hu] at h
    cases hd : i.desc with
    | bool =>
      rw [hd] at h
      match cs, h with
      | [.bool b], h => exact ⟨[.v (.bool b)], .bool hi hd b, rfl, fun j x v hj hv => by
          cases j with
          | zero =>
            obtain rfl : LV.v (.bool b) = x := by simpa using hj
            obtain rfl : Value.bool b = v := by simpa using hv
            exact .raw _ rfl
          | succ j => simp at hj⟩
      | [], h => simp at h
      | [.int _ _], h | [.float _ _], h | [.complex _ _ _], h | [.string _], h | [.pointer _], h | [.slice _ _ _], h | [.map _], h | [.chan _], h | [.func _ _ _], h | [.nilFunc], h | [.iface _ _], h | [.nilIface], h | [.agg _], h | [.tuple _], h => simp at h
      | _ :: _ :: _, h => simp at h
    | int k =>
      rw [hd] at h
      match cs, h with
      | [.int k' m], h =>
        simp only at h
        split at h
        · rename_i hc
          obtain ⟨rfl, hwf⟩ := hc
          exact ⟨[.v (.int k' m)], .int hi hd hwf, rfl, fun j x v hj hv => by
            cases j with
            | zero =>
              obtain rfl : LV.v (.int k' m) = x := by simpa using hj
              obtain rfl : Value.int k' m = v := by simpa using hv
              exact .raw _ rfl
            | succ j => simp at hj⟩
        · cases h
      | [], h => simp at h
      | [.bool _], h | [.float _ _], h | [.complex _ _ _], h | [.string _], h | [.pointer _], h | [.slice _ _ _], h | [.map _], h | [.chan _], h | [.func _ _ _], h | [.nilFunc], h | [.iface _ _], h | [.nilIface], h | [.agg _], h | [.tuple _], h => simp at h
      | _ :: _ :: _, h => simp at h
    | string =>
      rw [hd] at h
      match cs, h with
      | [.string s], h =>
        simp only at h
        split at h
        · obtain ⟨rfl, _⟩ : DataW.lit (.string s.data.toList) = x ∧ [] = ps := by simpa using h
          have hsz : s.size ≤ 140737488351232 := by
            simp [DataW.weights, reachBytes] at hw
            exact of_decide_eq_true hw
          exact ⟨[.v (.string s)], .string hi hd hsz, rfl, fun j x v hj hv => by
            cases j with
            | zero =>
              obtain rfl : LV.v (.string s) = x := by simpa using hj
              obtain rfl : Value.string s = v := by simpa using hv
              exact .raw _ rfl
            | succ j => simp at hj⟩
        · cases h
      | [], h => simp at h
      | [.bool _], h | [.int _ _], h | [.float _ _], h | [.complex _ _ _], h | [.pointer _], h | [.slice _ _ _], h | [.map _], h | [.chan _], h | [.func _ _ _], h | [.nilFunc], h | [.iface _ _], h | [.nilIface], h | [.agg _], h | [.tuple _], h => simp at h
      | _ :: _ :: _, h => simp at h
    | slice e =>
      rw [hd] at h hok
      simp only [Bool.and_eq_true] at hok
      obtain ⟨hok1, hok2⟩ := hok
      cases hj : D.get e with
      | none => rw [hj] at hok1; cases hok1
      | some j =>
      rw [hj] at hok1
      have hz0 : 0 < j.size := by simpa [Nat.blt_eq] using hok1
      have tj := hD.get hj
      have hze := cellsOf' tj
      obtain ⟨ji, q1, q2, q3, q4⟩ := tj.info
      have hbe : G.P.bytesOf e = j.bytes := by simp [Program.bytesOf, q1, q3]
      match cs, h with
      | [.slice none 0 0], h => exact ⟨[.sl .sh []], .slice hi hd hj (by simp) (by simp) (by simp) (by simp), rfl, fun j x v hj hv => by
            cases j with
            | zero =>
              obtain rfl : LV.sl .sh [] = x := by simpa using hj
              obtain rfl : Value.slice none 0 0 = v := by simpa using hv
              exact .emp _ _
            | succ j => simp at hj⟩
      | [.slice (some a) len cap], h =>
        simp only at h
        split at h
        · rename_i hc
          obtain ⟨hc1, hc2, hc3⟩ := hc
          cases hm : (List.range len).mapM (fun i => (w.cells? base (a.add (i * G.P.cellsOf e)) (G.P.cellsOf e)).bind (DataW.trod enc G.P w base spare held fuel e)) with
          | none => rw [hm] at h; simp at h
          | some elems =>
            rw [hm] at h
            simp only [Option.bind_some] at h
            obtain ⟨m1, m2⟩ := mapM_opt hm
            rw [List.length_range] at m1
            obtain ⟨rest, hx⟩ : ∃ rest, x = .slice (elems.map (·.1)) rest := by
              revert h
              cases (if spare a.block = true then _ else _ : Option (List (DataW H × List MemPlace))) with
              | none => intro h; simp at h
              | some r => intro h; simp only [Option.map_some, Option.some.injEq, Prod.mk.injEq] at h; exact ⟨_, h.1.symm⟩
            subst hx
            simp only [DataW.weights, hu, hd] at hw
            simp only [List.all_cons, Bool.and_eq_true, List.all_append, List.length_map, decide_eq_true_eq] at hw
            obtain ⟨hw1, hw2, _⟩ := hw
            rw [hbe, m1] at hw1
            have hlen : len * j.bytes ≤ 140737488351232 := by
              refine Nat.le_trans (Nat.mul_le_mul_right _ (Nat.le_add_right len rest.length)) ?_
              simpa [reachBytes] using hw1
            have hel : ∀ k, k < len → ∃ l : List LV × List Value, (w.cells? base (a.add (k * j.size)) j.size = some l.2) ∧ Reads G w D e l.2 l.1 := by
              intro k hk
              obtain ⟨y, hy1, hy2⟩ := m2 k k (by simp [hk])
              rw [hze] at hy1
              cases hcl : w.cells? base (a.add (k * j.size)) j.size with
              | none => rw [hcl] at hy1; simp at hy1
              | some ck =>
                rw [hcl] at hy1
                simp only [Option.bind_some] at hy1
                have hwk := weightsAll_mem hw2 y.1 (List.mem_map.2 ⟨y, List.mem_of_getElem? hy2, rfl⟩)
                obtain ⟨l, hl⟩ := ih n e ck y.1 y.2 hok2 hy1 hwk
                exact ⟨(l, ck), rfl, hl⟩
            obtain ⟨f, hf⟩ := skolem hel
            have hcell : ∀ k, k < len → ∀ q, q < j.size → w.cell? ⟨a.block, a.off + (k * j.size + q), none⟩ = (f k).2[q]? ∧ ∃ v, (f k).2[q]? = some v := by
              intro k hk q hq
              have h1 := (hf k hk).1
              unfold World.cells? at h1
              split at h1
              · obtain ⟨g1, g2⟩ := mapM_opt h1
                obtain ⟨y, hy1, hy2⟩ := g2 q q (by simp [hq])
                refine ⟨?_, y, hy2⟩
                rw [hy2, ← hy1]
                have hspot : a.spot = none ∨ k * j.size ≠ 0 ∨ q ≠ 0 := by
                  by_cases hk0 : k * j.size = 0
                  · by_cases hq0 : q = 0
                    · left
                      rw [hk0, hq0] at hy1
                      simp only [Addr.add, if_true] at hy1
                      cases hs : a.spot with
                      | none => rfl
                      | some sp =>
                        unfold World.cell? at hy1
                        simp only [hs, Option.isSome_some, if_true] at hy1
                        split at hy1 <;> cases hy1
                    · exact .inr (.inr hq0)
                  · exact .inr (.inl hk0)
                congr 1
                obtain ⟨ab, ao, asp⟩ := a
                simp only [Addr.add]
                by_cases hk0 : k * j.size = 0 <;> by_cases hq0 : q = 0 <;> simp_all
                omega
              · cases h1
            have hlenk : ∀ k, k < len → (f k).1.length = j.size ∧ (f k).2.length = j.size := by
              intro k hk
              have h1 := (hf k hk).1
              unfold World.cells? at h1
              split at h1
              · obtain ⟨g1, _⟩ := mapM_opt h1
                rw [List.length_range] at g1
                exact ⟨by rw [(hf k hk).2.2.1, g1], g1⟩
              · cases h1
            refine ⟨[.sl .sh ((List.range len).map fun k => (f k).1)], .slice hi hd hj (fun c hc => ?_) (fun c hc => ?_) (by simpa using hlen) (by simp; omega), rfl, fun q y v hq hv => ?_⟩
            · obtain ⟨k, hk, rfl⟩ := List.mem_map.1 hc
              exact (hf k (List.mem_range.1 hk)).2.1
            · obtain ⟨k, hk, rfl⟩ := List.mem_map.1 hc
              exact (hlenk k (List.mem_range.1 hk)).1
            · cases q with
              | succ q => simp at hq
              | zero =>
                obtain rfl : LV.sl .sh ((List.range len).map fun k => (f k).1) = y := by simpa using hq
                obtain rfl : Value.slice (some a) len cap = v := by simpa using hv
                by_cases hl0 : len = 0
                · subst hl0; exact .emp _ _
                · have hsp : a.spot = none := by
                    obtain ⟨_, v, hv0⟩ := hcell 0 (by omega) 0 hz0
                    have h1 := (hf 0 (by omega)).1
                    unfold World.cells? at h1
                    split at h1
                    · obtain ⟨g1, g2⟩ := mapM_opt h1
                      obtain ⟨y, hy1, _⟩ := g2 0 0 (by simp [hz0])
                      simp only [Nat.zero_mul, Addr.add, if_true] at hy1
                      cases hs : a.spot with
                      | none => rfl
                      | some sp =>
                        unfold World.cell? at hy1
                        simp only [hs, Option.isSome_some, if_true] at hy1
                        split at hy1 <;> cases hy1
                    · cases h1
                  have hcO : ∀ (i q : Nat) x, cellOf ((List.range len).map fun k => (f k).1) i q = some x → i < len ∧ q < j.size ∧ (f i).1[q]? = some x := by
                    intro i q x hx
                    have heach : ∀ c ∈ (List.range len).map (fun k => (f k).1), c.length = j.size := fun c hc => by
                      obtain ⟨k, hk, rfl⟩ := List.mem_map.1 hc
                      exact (hlenk k (List.mem_range.1 hk)).1
                    obtain ⟨h1, h2⟩ := cellOf_lt heach hx
                    rw [List.length_map, List.length_range] at h1
                    refine ⟨h1, h2, ?_⟩
                    unfold cellOf at hx
                    rw [List.getElem?_map, List.getElem?_range h1] at hx
                    exact hx
                  have := Rep.row (G := G) (w := w) (K := allCells w) .sh ((List.range len).map fun k => (f k).1) a.block a.off cap j.size (fun i q => (f i).2.getD q undef) (by simp) (by simpa using hc2) (fun c hc => by
                      obtain ⟨k, hk, rfl⟩ := List.mem_map.1 hc
                      exact (hlenk k (List.mem_range.1 hk)).1) (by simp) (fun i q x hx => by
                      obtain ⟨h1, h2, h3⟩ := hcO i q x hx
                      obtain ⟨c1, v, c2⟩ := hcell i h1 q h2
                      rw [List.getD_eq_getElem?_getD, c2]
                      rw [c2] at c1
                      exact ⟨c1, v, c1⟩) (fun i q x hx => by
                      obtain ⟨h1, h2, h3⟩ := hcO i q x hx
                      obtain ⟨c1, v, c2⟩ := hcell i h1 q h2
                      rw [List.getD_eq_getElem?_getD, c2]
                      exact (hf i h1).2.2.2 q x v h3 c2)
                  rw [List.length_map, List.length_range] at this
                  obtain ⟨ab, ao, asp⟩ := a
                  simp only at hsp this ⊢
                  subst hsp
                  exact this
        · cases h
      | [.slice none (n + 1) c], h => simp at h
      | [.slice none 0 (c + 1)], h => simp at h
      | [], h => simp at h
      | [.bool _], h | [.int _ _], h | [.float _ _], h | [.complex _ _ _], h | [.string _], h | [.pointer _], h | [.map _], h | [.chan _], h | [.func _ _ _], h | [.nilFunc], h | [.iface _ _], h | [.nilIface], h | [.agg _], h | [.tuple _], h => simp at h
      | _ :: _ :: _, h => simp at h
    | struct fs =>
      rw [hd] at h hok
      simp only [Bool.and_eq_true, beq_iff_eq] at hok
      obtain ⟨hok1, hok2⟩ := hok
      have hsize := cellsOf' (hD.get hi)
      simp only at h
      split at h
      · rename_i hcs
        rw [hsize] at hcs
        cases hm : fs.toList.mapM (fun f => DataW.trod enc G.P w base spare held fuel f.type ((cs.drop f.offset).take (G.P.cellsOf f.type))) with
        | none => rw [hm] at h; simp at h
        | some xs =>
          rw [hm] at h
          obtain ⟨rfl, _⟩ : DataW.agg (xs.map (·.1)) = x ∧ xs.flatMap (·.2) = ps := by simpa using h
          obtain ⟨m1, m2⟩ := mapM_opt hm
          simp only [DataW.weights, hu, hd] at hw
          obtain ⟨l, e1, e2, e3⟩ := reads_parts (G := G) (w := w) (D := D) fs.toList 0 i.size cs hok1 hcs.symm (Nat.zero_le _) (fun k f j hk hj => by
            obtain ⟨y, hy1, hy2⟩ := m2 k f hk
            rw [cellsOf' (hD.get hj)] at hy1
            exact ih n f.type _ y.1 y.2 (List.all_eq_true.1 hok2 f (List.mem_of_getElem? hk)) hy1 (weightsEach_get hw k f.type y.1 (by rw [List.getElem?_map, hk]; rfl) (by rw [List.getElem?_map, hy2]; rfl)))
          refine ⟨l, .struct hi hd (by omega) (fun k f j hk hj => by have := (e3 k f j hk hj).2; rwa [Nat.sub_zero] at this), by omega, fun q x v hq hv => e2 q x v hq (by rwa [Nat.zero_add])⟩
      · cases h
    | array m e =>
      rw [hd] at h hok
      simp only [Bool.and_eq_true] at hok
      obtain ⟨hok1, hok2⟩ := hok
      cases hj : D.get e with
      | none => rw [hj] at hok1; cases hok1
      | some j =>
      rw [hj] at hok1
      have hsz : i.size = m * j.size := Nat.eq_of_beq_eq_true hok1
      have hsize := cellsOf' (hD.get hi)
      have hze := cellsOf' (hD.get hj)
      simp only at h
      split at h
      · rename_i hcs
        rw [hsize] at hcs
        cases hm : (List.range m).mapM (fun i => DataW.trod enc G.P w base spare held fuel e ((cs.drop (i * G.P.cellsOf e)).take (G.P.cellsOf e))) with
        | none => rw [hm] at h; simp at h
        | some xs =>
          rw [hm] at h
          obtain ⟨rfl, _⟩ : DataW.agg (xs.map (·.1)) = x ∧ xs.flatMap (·.2) = ps := by simpa using h
          obtain ⟨m1, m2⟩ := mapM_opt hm
          simp only [DataW.weights, hu, hd] at hw
          obtain ⟨l, e1, e2, e3⟩ := reads_rows (G := G) (w := w) (D := D) (e := e) (z := j.size) (n := m) (cs := cs) (by omega) (fun k hk => by
            obtain ⟨y, hy1, hy2⟩ := m2 k k (by simp [hk])
            rw [hze] at hy1
            exact ih n e _ y.1 y.2 hok2 hy1 (weightsAll_mem hw y.1 (List.mem_map.2 ⟨y, List.mem_of_getElem? hy2, rfl⟩)))
          exact ⟨l, .array hi hd hj (by omega) e3, by omega, e2⟩
      · cases h
    | _ => rw [hd] at hok; cases hok

end Go.Proofs.Ytkjbdldjfjkneaa.LF
