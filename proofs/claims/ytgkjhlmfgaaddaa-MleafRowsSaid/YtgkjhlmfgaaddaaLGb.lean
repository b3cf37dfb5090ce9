/- Parts of the frame, one behind the other: LFj LFk LFi LFl LFm LFn LFo LFp. (Printed by merge.py.) -/
import Derived.Test.YtgkjhlmfgaaddaaLGa
import Derived.RangeFuncMany
import Derived.Laws.StructEq
import Derived.Maps.Keyed
import Derived.MapKept
set_option linter.unusedVariables false
set_option linter.unusedSimpArgs false
section
/- The frame's entrance: what an argument that reads as data is as a logical value. -/
namespace Go.Proofs.Ytgkjhlmfgaaddaa.LF
open Go.RowKit

/-- Cells of a type, as logical values. -/
inductive Typed (D : Tab) : TypeId → List LV → Prop
  | bool {t : TypeId} {i : TI} (h : D.get t = some i) (hd : i.desc = .bool) (b : Bool) : Typed D t [.v (.bool b)]
  | int {t : TypeId} {i : TI} {k : IntKind} {n : Int} (h : D.get t = some i) (hd : i.desc = .int k) (wf : (Lit.int k n).wf = true) : Typed D t [.v (.int k n)]
  | string {t : TypeId} {i : TI} {s : ByteArray} (h : D.get t = some i) (hd : i.desc = .string) (hs : s.size ≤ 140737488351232) : Typed D t [.v (.string s)]
  | slice {t e : TypeId} {i j : TI} {es : List (List LV)} (h : D.get t = some i) (hd : i.desc = .slice e) (hj : D.get e = some j) (hall : ∀ c ∈ es, Typed D e c) (hsz : ∀ c ∈ es, c.length = j.size) (hlen : es.length * j.bytes ≤ 140737488351232) (hl : es.length ≤ maxLen) : Typed D t [.sl .sh es]
  | struct {t : TypeId} {i : TI} {fs : Array Field} {l : List LV} (h : D.get t = some i) (hd : i.desc = .struct fs) (hl : l.length = i.size) (hf : ∀ (k : Nat) f j, fs.toList[k]? = some f → D.get f.type = some j → Typed D f.type ((l.drop f.offset).take j.size)) : Typed D t l
  | array {t e : TypeId} {i j : TI} {n : Nat} {l : List LV} (h : D.get t = some i) (hd : i.desc = .array n e) (hj : D.get e = some j) (hl : l.length = n * j.size) (hf : ∀ k, k < n → Typed D e ((l.drop (k * j.size)).take j.size)) : Typed D t l

/-- A struct's fields lie one behind the other. -/
def tiles (D : Tab) : List Field → Nat → Option Nat
  | [], n => some n
  | f :: fs, n => match D.get f.type with
    | none => none
    | some j => bif Nat.beq f.offset n then tiles D fs (n + j.size) else none

def tyOK (D : Tab) : Nat → TypeId → Bool
  | 0, _ => false
  | n + 1, t => match D.get t with
    | none => false
    | some i => match i.desc with
      | .bool => true
      | .int _ => true
      | .string => true
      | .slice e => (match D.get e with | some j => Nat.blt 0 j.size | none => false) && tyOK D n e
      | .struct fs => (tiles D fs.toList 0 == some i.size) && fs.toList.all fun f => tyOK D n f.type
      | .array m e => (match D.get e with | some j => Nat.beq i.size (m * j.size) | none => false) && tyOK D n e
      | _ => false

theorem mapM_opt {α β : Type} {f : α → Option β} : ∀ {l : List α} {r : List β}, l.mapM f = some r → r.length = l.length ∧ ∀ (k : Nat) x, l[k]? = some x → ∃ y, f x = some y ∧ r[k]? = some y := by
  intro l
  induction l with
  | nil => intro r h; obtain rfl : [] = r := by simpa using h
           exact ⟨rfl, by simp⟩
  | cons a l ih =>
    intro r h
    rw [List.mapM_cons] at h
    cases h1 : f a with
    | none => rw [h1] at h; simp at h
    | some b =>
      cases h2 : l.mapM f with
      | none => rw [h1, h2] at h; simp at h
      | some r' =>
        rw [h1, h2] at h
        obtain rfl : b :: r' = r := by simpa using h
        obtain ⟨i1, i2⟩ := ih h2
        refine ⟨by simp [i1], fun k x hk => ?_⟩
        cases k with
        | zero =>
          obtain rfl : a = x := by simpa using hk
          exact ⟨b, h1, rfl⟩
        | succ k => exact i2 k x (by simpa using hk)

theorem skolem {α : Type} [Inhabited α] {n : Nat} {p : Nat → α → Prop} (h : ∀ k, k < n → ∃ x, p k x) : ∃ f : Nat → α, ∀ k, k < n → p k (f k) := by
  classical
  exact ⟨fun k => if hk : k < n then (h k hk).choose else default, fun k hk => by simp only [dif_pos hk]; exact (h k hk).choose_spec⟩

/-- Every cell that there is. -/
def allCells (w : World) : Kept := fun b j => ∃ v, w.cell? ⟨b, j, none⟩ = some v

/-- The cells of one value, as logical values. -/
def Reads (G : Ctx) (w : World) (D : Tab) (t : TypeId) (cs : List Value) (l : List LV) : Prop :=
  Typed D t l ∧ l.length = cs.length ∧ ∀ (j : Nat) x v, l[j]? = some x → cs[j]? = some v → Rep G w (allCells w) x v

theorem reads_parts {G : Ctx} {w : World} {D : Tab} : ∀ (fs : List Field) (n m : Nat) (cs : List Value), tiles D fs n = some m → m = cs.length → n ≤ m →
    (∀ (k : Nat) f j, fs[k]? = some f → D.get f.type = some j → ∃ l, Reads G w D f.type ((cs.drop f.offset).take j.size) l) →
    ∃ l : List LV, l.length = m - n ∧ (∀ (q : Nat) x v, l[q]? = some x → cs[n + q]? = some v → Rep G w (allCells w) x v) ∧
      ∀ (k : Nat) f j, fs[k]? = some f → D.get f.type = some j → n ≤ f.offset ∧ Typed D f.type ((l.drop (f.offset - n)).take j.size) := by
  intro fs
  induction fs with
  | nil =>
    intro n m cs ht hm hnm _
    obtain rfl : n = m := by simpa [tiles] using ht
    exact ⟨[], by simp, by simp, by simp⟩
  | cons f fs ih =>
    intro n m cs ht hm hnm hp
    simp only [tiles] at ht
    cases hj : D.get f.type with
    | none => rw [hj] at ht; cases ht
    | some j =>
      rw [hj] at ht
      simp only at ht
      cases hb : Nat.beq f.offset n with
      | false => rw [hb] at ht; cases ht
      | true =>
        rw [hb] at ht
        have hoff : f.offset = n := Nat.eq_of_beq_eq_true hb
        simp only [cond_true] at ht
        have hle : n + j.size ≤ m := by
          clear ih hp
          have : ∀ (fs : List Field) (a b : Nat), tiles D fs a = some b → a ≤ b := by
            intro fs
            induction fs with
            | nil => intro a b h; obtain rfl : a = b := by simpa [tiles] using h
                     exact Nat.le_refl _
            | cons g gs ih =>
              intro a b h
              simp only [tiles] at h
              cases hg : D.get g.type with
              | none => rw [hg] at h; cases h
              | some i =>
                rw [hg] at h
                simp only at h
                cases hq : Nat.beq g.offset a with
                | false => rw [hq] at h; cases h
                | true => rw [hq] at h; have := ih _ _ h; omega
          exact this _ _ _ ht
        obtain ⟨l2, e1, e2, e3⟩ := ih (n + j.size) m cs ht hm hle (fun k g i hk hi => hp (k + 1) g i hk hi)
        obtain ⟨l1, t1, t2, t3⟩ := hp 0 f j rfl hj
        rw [hoff] at t2 t3
        have hl1 : l1.length = j.size := by rw [t2]; simp; omega
        refine ⟨l1 ++ l2, by simp; omega, fun q x v hq hv => ?_, fun k g i hk hi => ?_⟩
        · by_cases hlt : q < j.size
          · rw [List.getElem?_append_left (by omega)] at hq
            refine t3 q x v hq ?_
            rw [List.getElem?_take, if_pos hlt, List.getElem?_drop]; exact hv
          · rw [List.getElem?_append_right (by omega)] at hq
            refine e2 _ x v hq ?_
            rw [hl1, show n + j.size + (q - j.size) = n + q by omega]; exact hv
        · cases k with
          | zero =>
            obtain rfl : f = g := by simpa using hk
            rw [hj] at hi
            obtain rfl : j = i := by simpa using hi
            refine ⟨by omega, ?_⟩
            rw [hoff, Nat.sub_self, List.drop_zero, List.take_append_of_le_length (by omega), List.take_of_length_le (by omega)]
            exact t1
          | succ k =>
            obtain ⟨h1, h2⟩ := e3 k g i (by simpa using hk) hi
            refine ⟨by omega, ?_⟩
            have : List.drop (g.offset - n) (l1 ++ l2) = List.drop (g.offset - (n + j.size)) l2 := by
              rw [List.drop_append, List.drop_eq_nil_of_le (by omega), List.nil_append]
              congr 1; omega
            rw [this]; exact h2

theorem reads_rows {G : Ctx} {w : World} {D : Tab} {e : TypeId} {z n : Nat} {cs : List Value} (hcs : cs.length = n * z) (hp : ∀ k, k < n → ∃ l, Reads G w D e ((cs.drop (k * z)).take z) l) :
    ∃ l : List LV, l.length = n * z ∧ (∀ (q : Nat) x v, l[q]? = some x → cs[q]? = some v → Rep G w (allCells w) x v) ∧ ∀ k, k < n → Typed D e ((l.drop (k * z)).take z) := by
  induction n generalizing cs with
  | zero => exact ⟨[], by simp, by simp, by omega⟩
  | succ n ih =>
    rw [Nat.add_mul, Nat.one_mul] at hcs
    obtain ⟨l2, e1, e2, e3⟩ := ih (cs := cs.drop z) (by simp; omega) (fun k hk => by
      have := hp (k + 1) (by omega)
      rw [List.drop_drop]
      rw [Nat.add_mul, Nat.one_mul, Nat.add_comm] at this
      exact this)
    obtain ⟨l1, t1, t2, t3⟩ := hp 0 (by omega)
    simp only [Nat.zero_mul, List.drop_zero] at t2 t3
    have hl1 : l1.length = z := by rw [t2]; simp; omega
    refine ⟨l1 ++ l2, by rw [List.length_append, e1, hl1, Nat.add_mul]; omega, fun q x v hq hv => ?_, fun k hk => ?_⟩
    · by_cases hlt : q < z
      · rw [List.getElem?_append_left (by omega)] at hq
        refine t3 q x v hq ?_
        rw [List.getElem?_take, if_pos hlt]; exact hv
      · rw [List.getElem?_append_right (by omega)] at hq
        refine e2 _ x v hq ?_
        rw [List.getElem?_drop, hl1, show z + (q - z) = q by omega]; exact hv
    · cases k with
      | zero =>
        rw [Nat.zero_mul, List.drop_zero, List.take_append_of_le_length (by omega), List.take_of_length_le (by omega)]
        exact t1
      | succ k =>
        have : List.drop ((k + 1) * z) (l1 ++ l2) = List.drop (k * z) l2 := by
          have : z ≤ (k + 1) * z := by rw [Nat.add_mul]; omega
          rw [List.drop_append, List.drop_eq_nil_of_le (by omega), List.nil_append]
          congr 1; rw [Nat.add_mul]; omega
        rw [this]; exact e3 k (by omega)

theorem weightsAll_mem {H : Type} {P : Program} {e : TypeId} : ∀ {ds : List (DataW H)}, (DataW.weightsAll P e ds).all (· ≤ reachBytes) = true → ∀ d ∈ ds, (d.weights P e).all (· ≤ reachBytes) = true := by
  intro ds
  induction ds with
  | nil => intro _ d hd; cases hd
  | cons a ds ih =>
    intro h d hd
    rw [DataW.weightsAll, List.all_append, Bool.and_eq_true] at h
    rcases List.mem_cons.1 hd with rfl | hd
    · exact h.1
    · exact ih h.2 d hd

theorem weightsEach_get {H : Type} {P : Program} : ∀ {ts : List TypeId} {ds : List (DataW H)}, (DataW.weightsEach P ts ds).all (· ≤ reachBytes) = true → ∀ (k : Nat) t d, ts[k]? = some t → ds[k]? = some d → (d.weights P t).all (· ≤ reachBytes) = true := by
  intro ts
  induction ts with
  | nil => intro ds _ k t d h; simp at h
  | cons a ts ih =>
    intro ds h k t d ht hd
    cases ds with
    | nil => simp at hd
    | cons b ds =>
      rw [DataW.weightsEach, List.all_append, Bool.and_eq_true] at h
      cases k with
      | zero =>
        obtain rfl : a = t := by simpa using ht
        obtain rfl : b = d := by simpa using hd
        exact h.1
      | succ k => exact ih h.2 k t d (by simpa using ht) (by simpa using hd)

theorem reads_of {H : Type} {enc : TypeId × Value → H} {G : Ctx} {w : World} {D : Tab} (hD : TabOK G.P D) {base : Nat} {spare : Nat → Bool} {held : Bool} : ∀ (fuel n : Nat) (t : TypeId) (cs : List Value) (x : DataW H) (ps : List MemPlace), tyOK D n t = true →
    DataW.trod enc G.P w base spare held fuel t cs = some (x, ps) → (x.weights G.P t).all (· ≤ reachBytes) = true → ∃ l, Reads G w D t cs l := by
  intro fuel
  induction fuel with
  | zero => intro n t cs x ps _ h; simp [DataW.trod] at h
  | succ fuel ih =>
    intro n t cs x ps hok h hw
    cases n with
    | zero => simp [tyOK] at hok
    | succ n =>
    simp only [tyOK] at hok
    cases hi : D.get t with
    | none => rw [hi] at hok; cases hok
    | some i =>
    rw [hi] at hok
    simp only at hok
    have hu := (hD.get hi).und
    unfold DataW.trod at h
    rw [hu] at h
    cases hd : i.desc with
    | bool =>
      rw [hd] at h
      match cs, h with
      | [.bool b], h => exact ⟨[.v (.bool b)], .bool hi hd b, rfl, fun j x v hj hv => by
          cases j with
          | zero =>
            obtain rfl : LV.v (.bool b) = x := by simpa using hj
            obtain rfl : Value.bool b = v := by simpa using hv
            exact .raw _ rfl
          | succ j => simp at hj⟩
      | [], h => simp at h
      | [.int _ _], h | [.float _ _], h | [.complex _ _ _], h | [.string _], h | [.pointer _], h | [.slice _ _ _], h | [.map _], h | [.chan _], h | [.func _ _ _], h | [.nilFunc], h | [.iface _ _], h | [.nilIface], h | [.agg _], h | [.tuple _], h => simp at h
      | _ :: _ :: _, h => simp at h
    | int k =>
      rw [hd] at h
      match cs, h with
      | [.int k' m], h =>
        simp only at h
        split at h
        · rename_i hc
          obtain ⟨rfl, hwf⟩ := hc
          exact ⟨[.v (.int k' m)], .int hi hd hwf, rfl, fun j x v hj hv => by
            cases j with
            | zero =>
              obtain rfl : LV.v (.int k' m) = x := by simpa using hj
              obtain rfl : Value.int k' m = v := by simpa using hv
              exact .raw _ rfl
            | succ j => simp at hj⟩
        · cases h
      | [], h => simp at h
      | [.bool _], h | [.float _ _], h | [.complex _ _ _], h | [.string _], h | [.pointer _], h | [.slice _ _ _], h | [.map _], h | [.chan _], h | [.func _ _ _], h | [.nilFunc], h | [.iface _ _], h | [.nilIface], h | [.agg _], h | [.tuple _], h => simp at h
      | _ :: _ :: _, h => simp at h
    | string =>
      rw [hd] at h
      match cs, h with
      | [.string s], h =>
        simp only at h
        split at h
        · obtain ⟨rfl, _⟩ : DataW.lit (.string s.data.toList) = x ∧ [] = ps := by simpa using h
          have hsz : s.size ≤ 140737488351232 := by
            simp [DataW.weights, reachBytes] at hw
            exact of_decide_eq_true hw
          exact ⟨[.v (.string s)], .string hi hd hsz, rfl, fun j x v hj hv => by
            cases j with
            | zero =>
              obtain rfl : LV.v (.string s) = x := by simpa using hj
              obtain rfl : Value.string s = v := by simpa using hv
              exact .raw _ rfl
            | succ j => simp at hj⟩
        · cases h
      | [], h => simp at h
      | [.bool _], h | [.int _ _], h | [.float _ _], h | [.complex _ _ _], h | [.pointer _], h | [.slice _ _ _], h | [.map _], h | [.chan _], h | [.func _ _ _], h | [.nilFunc], h | [.iface _ _], h | [.nilIface], h | [.agg _], h | [.tuple _], h => simp at h
      | _ :: _ :: _, h => simp at h
    | slice e =>
      rw [hd] at h hok
      simp only [Bool.and_eq_true] at hok
      obtain ⟨hok1, hok2⟩ := hok
      cases hj : D.get e with
      | none => rw [hj] at hok1; cases hok1
      | some j =>
      rw [hj] at hok1
      have hz0 : 0 < j.size := by simpa [Nat.blt_eq] using hok1
      have tj := hD.get hj
      have hze := cellsOf' tj
      obtain ⟨ji, q1, q2, q3, q4⟩ := tj.info
      have hbe : G.P.bytesOf e = j.bytes := by simp [Program.bytesOf, q1, q3]
      match cs, h with
      | [.slice none 0 0], h => exact ⟨[.sl .sh []], .slice hi hd hj (by simp) (by simp) (by simp) (by simp), rfl, fun j x v hj hv => by
            cases j with
            | zero =>
              obtain rfl : LV.sl .sh [] = x := by simpa using hj
              obtain rfl : Value.slice none 0 0 = v := by simpa using hv
              exact .emp _ _
            | succ j => simp at hj⟩
      | [.slice (some a) len cap], h =>
        simp only at h
        split at h
        · rename_i hc
          obtain ⟨hc1, hc2, hc3⟩ := hc
          cases hm : (List.range len).mapM (fun i => (w.cells? base (a.add (i * G.P.cellsOf e)) (G.P.cellsOf e)).bind (DataW.trod enc G.P w base spare held fuel e)) with
          | none => rw [hm] at h; simp at h
          | some elems =>
            rw [hm] at h
            simp only [Option.bind_some] at h
            obtain ⟨m1, m2⟩ := mapM_opt hm
            rw [List.length_range] at m1
            obtain ⟨rest, hx⟩ : ∃ rest, x = .slice (elems.map (·.1)) rest := by
              revert h
              cases (if spare a.block = true then _ else _ : Option (List (DataW H × List MemPlace))) with
              | none => intro h; simp at h
              | some r => intro h; simp only [Option.map_some, Option.some.injEq, Prod.mk.injEq] at h; exact ⟨_, h.1.symm⟩
            subst hx
            simp only [DataW.weights, hu, hd] at hw
            simp only [List.all_cons, Bool.and_eq_true, List.all_append, List.length_map, decide_eq_true_eq] at hw
            obtain ⟨hw1, hw2, _⟩ := hw
            rw [hbe, m1] at hw1
            have hlen : len * j.bytes ≤ 140737488351232 := by
              refine Nat.le_trans (Nat.mul_le_mul_right _ (Nat.le_add_right len rest.length)) ?_
              simpa [reachBytes] using hw1
            have hel : ∀ k, k < len → ∃ l : List LV × List Value, (w.cells? base (a.add (k * j.size)) j.size = some l.2) ∧ Reads G w D e l.2 l.1 := by
              intro k hk
              obtain ⟨y, hy1, hy2⟩ := m2 k k (by simp [hk])
              rw [hze] at hy1
              cases hcl : w.cells? base (a.add (k * j.size)) j.size with
              | none => rw [hcl] at hy1; simp at hy1
              | some ck =>
                rw [hcl] at hy1
                simp only [Option.bind_some] at hy1
                have hwk := weightsAll_mem hw2 y.1 (List.mem_map.2 ⟨y, List.mem_of_getElem? hy2, rfl⟩)
                obtain ⟨l, hl⟩ := ih n e ck y.1 y.2 hok2 hy1 hwk
                exact ⟨(l, ck), rfl, hl⟩
            obtain ⟨f, hf⟩ := skolem hel
            have hcell : ∀ k, k < len → ∀ q, q < j.size → w.cell? ⟨a.block, a.off + (k * j.size + q), none⟩ = (f k).2[q]? ∧ ∃ v, (f k).2[q]? = some v := by
              intro k hk q hq
              have h1 := (hf k hk).1
              unfold World.cells? at h1
              split at h1
              · obtain ⟨g1, g2⟩ := mapM_opt h1
                obtain ⟨y, hy1, hy2⟩ := g2 q q (by simp [hq])
                refine ⟨?_, y, hy2⟩
                rw [hy2, ← hy1]
                have hspot : a.spot = none ∨ k * j.size ≠ 0 ∨ q ≠ 0 := by
                  by_cases hk0 : k * j.size = 0
                  · by_cases hq0 : q = 0
                    · left
                      rw [hk0, hq0] at hy1
                      simp only [Addr.add, if_true] at hy1
                      cases hs : a.spot with
                      | none => rfl
                      | some sp =>
                        unfold World.cell? at hy1
                        simp only [hs, Option.isSome_some, if_true] at hy1
                        split at hy1 <;> cases hy1
                    · exact .inr (.inr hq0)
                  · exact .inr (.inl hk0)
                congr 1
                obtain ⟨ab, ao, asp⟩ := a
                simp only [Addr.add]
                by_cases hk0 : k * j.size = 0 <;> by_cases hq0 : q = 0 <;> simp_all
                omega
              · cases h1
            have hlenk : ∀ k, k < len → (f k).1.length = j.size ∧ (f k).2.length = j.size := by
              intro k hk
              have h1 := (hf k hk).1
              unfold World.cells? at h1
              split at h1
              · obtain ⟨g1, _⟩ := mapM_opt h1
                rw [List.length_range] at g1
                exact ⟨by rw [(hf k hk).2.2.1, g1], g1⟩
              · cases h1
            refine ⟨[.sl .sh ((List.range len).map fun k => (f k).1)], .slice hi hd hj (fun c hc => ?_) (fun c hc => ?_) (by simpa using hlen) (by simp; omega), rfl, fun q y v hq hv => ?_⟩
            · obtain ⟨k, hk, rfl⟩ := List.mem_map.1 hc
              exact (hf k (List.mem_range.1 hk)).2.1
            · obtain ⟨k, hk, rfl⟩ := List.mem_map.1 hc
              exact (hlenk k (List.mem_range.1 hk)).1
            · cases q with
              | succ q => simp at hq
              | zero =>
                obtain rfl : LV.sl .sh ((List.range len).map fun k => (f k).1) = y := by simpa using hq
                obtain rfl : Value.slice (some a) len cap = v := by simpa using hv
                by_cases hl0 : len = 0
                · subst hl0; exact .emp _ _
                · have hsp : a.spot = none := by
                    obtain ⟨_, v, hv0⟩ := hcell 0 (by omega) 0 hz0
                    have h1 := (hf 0 (by omega)).1
                    unfold World.cells? at h1
                    split at h1
                    · obtain ⟨g1, g2⟩ := mapM_opt h1
                      obtain ⟨y, hy1, _⟩ := g2 0 0 (by simp [hz0])
                      simp only [Nat.zero_mul, Addr.add, if_true] at hy1
                      cases hs : a.spot with
                      | none => rfl
                      | some sp =>
                        unfold World.cell? at hy1
                        simp only [hs, Option.isSome_some, if_true] at hy1
                        split at hy1 <;> cases hy1
                    · cases h1
                  have hcO : ∀ (i q : Nat) x, cellOf ((List.range len).map fun k => (f k).1) i q = some x → i < len ∧ q < j.size ∧ (f i).1[q]? = some x := by
                    intro i q x hx
                    have heach : ∀ c ∈ (List.range len).map (fun k => (f k).1), c.length = j.size := fun c hc => by
                      obtain ⟨k, hk, rfl⟩ := List.mem_map.1 hc
                      exact (hlenk k (List.mem_range.1 hk)).1
                    obtain ⟨h1, h2⟩ := cellOf_lt heach hx
                    rw [List.length_map, List.length_range] at h1
                    refine ⟨h1, h2, ?_⟩
                    unfold cellOf at hx
                    rw [List.getElem?_map, List.getElem?_range h1] at hx
                    exact hx
                  have := Rep.row (G := G) (w := w) (K := allCells w) .sh ((List.range len).map fun k => (f k).1) a.block a.off cap j.size (fun i q => (f i).2.getD q undef) (by simp) (by simpa using hc2) (fun c hc => by
                      obtain ⟨k, hk, rfl⟩ := List.mem_map.1 hc
                      exact (hlenk k (List.mem_range.1 hk)).1) (by simp) (fun i q x hx => by
                      obtain ⟨h1, h2, h3⟩ := hcO i q x hx
                      obtain ⟨c1, v, c2⟩ := hcell i h1 q h2
                      rw [List.getD_eq_getElem?_getD, c2]
                      rw [c2] at c1
                      exact ⟨c1, v, c1⟩) (fun i q x hx => by
                      obtain ⟨h1, h2, h3⟩ := hcO i q x hx
                      obtain ⟨c1, v, c2⟩ := hcell i h1 q h2
                      rw [List.getD_eq_getElem?_getD, c2]
                      exact (hf i h1).2.2.2 q x v h3 c2)
                  rw [List.length_map, List.length_range] at this
                  obtain ⟨ab, ao, asp⟩ := a
                  simp only at hsp this ⊢
                  subst hsp
                  exact this
        · cases h
      | [.slice none (n + 1) c], h => simp at h
      | [.slice none 0 (c + 1)], h => simp at h
      | [], h => simp at h
      | [.bool _], h | [.int _ _], h | [.float _ _], h | [.complex _ _ _], h | [.string _], h | [.pointer _], h | [.map _], h | [.chan _], h | [.func _ _ _], h | [.nilFunc], h | [.iface _ _], h | [.nilIface], h | [.agg _], h | [.tuple _], h => simp at h
      | _ :: _ :: _, h => simp at h
    | struct fs =>
      rw [hd] at h hok
      simp only [Bool.and_eq_true, beq_iff_eq] at hok
      obtain ⟨hok1, hok2⟩ := hok
      have hsize := cellsOf' (hD.get hi)
      simp only at h
      split at h
      · rename_i hcs
        rw [hsize] at hcs
        cases hm : fs.toList.mapM (fun f => DataW.trod enc G.P w base spare held fuel f.type ((cs.drop f.offset).take (G.P.cellsOf f.type))) with
        | none => rw [hm] at h; simp at h
        | some xs =>
          rw [hm] at h
          obtain ⟨rfl, _⟩ : DataW.agg (xs.map (·.1)) = x ∧ xs.flatMap (·.2) = ps := by simpa using h
          obtain ⟨m1, m2⟩ := mapM_opt hm
          simp only [DataW.weights, hu, hd] at hw
          obtain ⟨l, e1, e2, e3⟩ := reads_parts (G := G) (w := w) (D := D) fs.toList 0 i.size cs hok1 hcs.symm (Nat.zero_le _) (fun k f j hk hj => by
            obtain ⟨y, hy1, hy2⟩ := m2 k f hk
            rw [cellsOf' (hD.get hj)] at hy1
            exact ih n f.type _ y.1 y.2 (List.all_eq_true.1 hok2 f (List.mem_of_getElem? hk)) hy1 (weightsEach_get hw k f.type y.1 (by rw [List.getElem?_map, hk]; rfl) (by rw [List.getElem?_map, hy2]; rfl)))
          refine ⟨l, .struct hi hd (by omega) (fun k f j hk hj => by have := (e3 k f j hk hj).2; rwa [Nat.sub_zero] at this), by omega, fun q x v hq hv => e2 q x v hq (by rwa [Nat.zero_add])⟩
      · cases h
    | array m e =>
      rw [hd] at h hok
      simp only [Bool.and_eq_true] at hok
      obtain ⟨hok1, hok2⟩ := hok
      cases hj : D.get e with
      | none => rw [hj] at hok1; cases hok1
      | some j =>
      rw [hj] at hok1
      have hsz : i.size = m * j.size := Nat.eq_of_beq_eq_true hok1
      have hsize := cellsOf' (hD.get hi)
      have hze := cellsOf' (hD.get hj)
      simp only at h
      split at h
      · rename_i hcs
        rw [hsize] at hcs
        cases hm : (List.range m).mapM (fun i => DataW.trod enc G.P w base spare held fuel e ((cs.drop (i * G.P.cellsOf e)).take (G.P.cellsOf e))) with
        | none => rw [hm] at h; simp at h
        | some xs =>
          rw [hm] at h
          obtain ⟨rfl, _⟩ : DataW.agg (xs.map (·.1)) = x ∧ xs.flatMap (·.2) = ps := by simpa using h
          obtain ⟨m1, m2⟩ := mapM_opt hm
          simp only [DataW.weights, hu, hd] at hw
          obtain ⟨l, e1, e2, e3⟩ := reads_rows (G := G) (w := w) (D := D) (e := e) (z := j.size) (n := m) (cs := cs) (by omega) (fun k hk => by
            obtain ⟨y, hy1, hy2⟩ := m2 k k (by simp [hk])
            rw [hze] at hy1
            exact ih n e _ y.1 y.2 hok2 hy1 (weightsAll_mem hw y.1 (List.mem_map.2 ⟨y, List.mem_of_getElem? hy2, rfl⟩)))
          exact ⟨l, .array hi hd hj (by omega) e3, by omega, e2⟩
      · cases h
    | _ => rw [hd] at hok; cases hok

end Go.Proofs.Ytgkjhlmfgaaddaa.LF
end

section
/- The frame round a law: from a contract over logical values to the call. -/
namespace Go.Proofs.Ytgkjhlmfgaaddaa.LF
open Go.RowKit
set_option linter.unusedVariables false

/-- What a slot holds of an argument. -/
def argTV (i : TI) (l : List LV) : TV := bif i.isAgg then .agg l else match l with
  | [x] => .one x
  | _ => .any

theorem arg_in {H : Type} {enc : TypeId × Value → H} {G : Ctx} {w : World} {D : Tab} (hD : TabOK G.P D) {base b0 : Nat} {r : Reach} {spare : Nat → Bool} {held : Bool} {n : Nat} {t : TypeId} {i : TI} {v : Value} {d : DataW H} {ps : List MemPlace} (hi : D.get t = some i) (hok : tyOK D n t = true)
    (h : DataW.Trod enc G.P w base spare held t v d ps) (hv : Value.okWide G.P w r b0 t v) (hw : (d.weights G.P t).all (· ≤ reachBytes) = true) : ∃ l, Typed D t l ∧ RepT G w (allCells w) (argTV i l) v := by
  obtain ⟨fuel, h⟩ := h
  obtain ⟨l, h1, h2, h3⟩ := reads_of hD fuel n t _ d ps hok h hw
  refine ⟨l, h1, ?_⟩
  have hu := (hD.get hi).und
  have hagg : i.isAgg = true → RepT G w (allCells w) (.agg l) v := by
    intro ha
    unfold Value.okWide at hv
    rw [hu] at hv
    unfold TI.isAgg at ha
    have : ∃ cs, v = .agg cs := by
      split at ha
      · rename_i hd; rw [hd] at hv; obtain ⟨cs, e, _⟩ := hv; exact ⟨cs, e⟩
      · rename_i hd; rw [hd] at hv; obtain ⟨cs, e, _⟩ := hv; exact ⟨cs, e⟩
      · cases ha
    obtain ⟨cs, rfl⟩ := this
    exact .agg l cs (by simpa [Value.cells] using h2.symm) (fun j x u hj hu => h3 j x u hj (by simpa [Value.cells] using hu))
  have hone : ∀ x u, l = [x] → v.cells = #[u] → v = u → RepT G w (allCells w) (.one x) v := by
    intro x u hl hc hvu
    subst hl
    exact .one (h3 0 x v rfl (by rw [hc, ← hvu]; rfl))
  unfold argTV
  cases h1 with
  | bool hi' hd b =>
    rw [hi] at hi'
    obtain rfl := Option.some.inj hi'
    have : i.isAgg = false := by simp [TI.isAgg, hd]
    rw [this]
    unfold Value.okWide Cell.okWide Cell.ok at hv
    rw [hu, hd] at hv
    cases v <;> first | exact hone _ _ rfl rfl rfl | (simp at hv; done)
  | @int _ _ k m hi' hd wf =>
    rw [hi] at hi'
    obtain rfl := Option.some.inj hi'
    have : i.isAgg = false := by simp [TI.isAgg, hd]
    rw [this]
    unfold Value.okWide Cell.okWide Cell.ok at hv
    rw [hu, hd] at hv
    cases v <;> first | exact hone _ _ rfl rfl rfl | (simp at hv; done)
  | string hi' hd hs =>
    rw [hi] at hi'
    obtain rfl := Option.some.inj hi'
    have : i.isAgg = false := by simp [TI.isAgg, hd]
    rw [this]
    unfold Value.okWide Cell.okWide Cell.ok at hv
    rw [hu, hd] at hv
    cases v <;> first | exact hone _ _ rfl rfl rfl | (simp at hv; done)
  | slice hi' hd hj hall hsz hlen hl =>
    rw [hi] at hi'
    obtain rfl := Option.some.inj hi'
    have : i.isAgg = false := by simp [TI.isAgg, hd]
    rw [this]
    unfold Value.okWide Cell.okWide Cell.ok at hv
    rw [hu, hd] at hv
    cases v <;> first | exact hone _ _ rfl rfl rfl | (simp at hv; done)
  | struct hi' hd hl hf =>
    rw [hi] at hi'
    obtain rfl := Option.some.inj hi'
    have : i.isAgg = true := by simp [TI.isAgg, hd]
    rw [this]
    exact hagg this
  | array hi' hd hj hl hf =>
    rw [hi] at hi'
    obtain rfl := Option.some.inj hi'
    have : i.isAgg = true := by simp [TI.isAgg, hd]
    rw [this]
    exact hagg this

theorem ArgsRel.nil {G : Ctx} {w : World} {K : Kept} : ArgsRel G w K [] #[] := ⟨rfl, by simp⟩

theorem ArgsRel.cons {G : Ctx} {w : World} {K : Kept} {T : TV} {Ts : List TV} {v : Value} {vs : List Value} (h : RepT G w K T v) (k : ArgsRel G w K Ts vs.toArray) : ArgsRel G w K (T :: Ts) (v :: vs).toArray := by
  refine ⟨by have := k.1; simpa using this, fun i x u hx hu => ?_⟩
  cases i with
  | zero =>
    obtain rfl : T = x := by simpa using hx
    obtain rfl : v = u := by simpa using hu
    exact h
  | succ i => exact k.2 i x u (by simpa using hx) (by simpa using hu)

def LS.none (n : Nat) : LS := { box := fun _ => Option.none, row := fun _ => Option.none, obj := fun _ => Option.none, top := n }

theorem Inv.none (P : Program) (W : World) : Inv { P := P, base := W.heap.size, W0 := W } (LS.none W.heap.size) (allCells W) W where
  below := Below.refl _ _
  base := Nat.le_refl _
  live := fun b j h => h
  box := fun b cs h => by cases h
  row := fun b T n h => by cases h
  obj := fun b o h => by cases h
  top := Nat.le_refl _
  since := trivial

/-- A law's contract over logical values is its contract. -/
theorem law_calls {P : Program} {f : FuncId} {Ts : List TV} {args : Array Value} {W : World} (h : ∀ (G : Ctx) (S : LS), G.P = P → LCalls G f Ts (fun r _ => r = .one (.v (.bool true))) S)
    (ha : ArgsRel { P := P, base := W.heap.size, W0 := W } W (allCells W) Ts args) : Calls P f args W fun e W' => e = .returned (.bool true) ∧ Below W.heap.size W W' := by
  refine (h { P := P, base := W.heap.size, W0 := W } (LS.none W.heap.size) rfl (allCells W) W args (Inv.none P W) ha).mono fun e W' hp => ?_
  obtain ⟨r, v, S', K', rfl, h2, h3, h4, rfl⟩ := hp
  exact ⟨by rw [h2.flat], h3.below⟩

/-- A contract over plain values, as one over logical values. -/
theorem LFun.of_calls {G : Ctx} {f : FuncId} {args : List TV} {vals : Array Value} {r : TV} {v : Value} (hv : ∀ w K, ArgsRel G w K args vals) (hu : ∀ w K vals', ArgsRel G w K args vals' → vals' = vals)
    (hr : ∀ w K, RepT G w K r v) (h : ∀ w, Calls G.P f vals w fun e w' => e = .returned v ∧ Below w.heap.size w w') : LFun G f args r := by
  intro S K w vals' hi ha
  rw [hu w K vals' ha]
  refine (h w).mono fun e w' hp => ?_
  obtain ⟨rfl, hb⟩ := hp
  have hblk : ∀ b, b < w.heap.size → w'.heap[b]? = w.heap[b]? := fun b hb' => hb.block b hb'
  have hx : Ext K w K w' := by
    refine ⟨fun b j hk => ⟨hk, ?_⟩, fun b s hs => ?_, hb.size, fun b hm => ?_⟩
    · obtain ⟨u, hu⟩ := hi.live b j hk
      exact World.cell?_of_block (a := ⟨b, j, none⟩) (hblk b (World.block_lt_of_cell? w _ hu))
    · have hlt : b < w.heap.size := by
        rcases Nat.lt_or_ge b w.heap.size with h' | h'
        · exact h'
        · simp [World.shape?, Array.getElem?_eq_none h'] at hs
      simp only [World.shape?, hblk b hlt] at hs ⊢
      exact hs
    · rw [hblk b (Array.getElem?_eq_some_iff.1 hm).1]; exact hm
  refine ⟨r, v, S, K, rfl, hr _ _, ⟨?_, ?_, fun b j hk => ?_, fun b cs hbx => ?_, fun b T n hrw => ?_, fun b o hob => ?_, ?_, G.stable _ _ _ _ hi.since hx⟩, hx, rfl, rfl⟩
  · exact hi.below.trans (hb.mono hi.base)
  · exact Nat.le_trans hi.base hb.size
  · rw [(hx.kept b j hk).2]; exact hi.live b j hk
  · obtain ⟨h1, h2, c, T, h3, h4, h5, h6⟩ := hi.box b cs hbx
    exact ⟨h1, h2, c, T, by rw [hblk b (Array.getElem?_eq_some_iff.1 h3).1]; exact h3, h4, fun j x u hj hu => (h5 j x u hj hu).mono hx, h6⟩
  · obtain ⟨h1, h2, h3, c, h4, h5⟩ := hi.row b T n hrw
    exact ⟨h1, h2, h3, c, by rw [hblk b (Array.getElem?_eq_some_iff.1 h4).1]; exact h4, h5⟩
  · obtain ⟨h1, h2, h3, h4⟩ := hi.obj b o hob
    exact ⟨h1, h2, by rw [hblk b (Array.getElem?_eq_some_iff.1 h3).1]; exact h3, h4⟩
  · exact Nat.le_trans hi.top hb.size

end Go.Proofs.Ytgkjhlmfgaaddaa.LF
end

section
/- The frame's rule for a range over a function. -/
namespace Go.Proofs.Ytgkjhlmfgaaddaa.LF
open Go.RowKit

/-- A call of yield, as the loop's round answers it. -/
def LYield (G : Ctx) (l : Nat) (args : List TV) (R : Bool → LS → Prop) (S : LS) : Prop :=
  ∀ K w vals, Inv G S K w → ArgsRel G w K args vals → ∃ fn tmps assign body, (Instr.yield l vals).run G.P w = .ok (.round l fn tmps assign body) w ∧
    RoundIn Fence.wide 0 G.P l fn tmps assign body w fun e w' => ∃ r S' K', e = .returned (.bool r) ∧ Inv G S' K' w' ∧ Ext K w K' w' ∧ R r S'

theorem LYield.mono {G : Ctx} {l : Nat} {args : List TV} {R R' : Bool → LS → Prop} {S : LS} (h : LYield G l args R S) (hr : ∀ r S, R r S → R' r S) : LYield G l args R' S := fun K w vals hi ha => by
  obtain ⟨fn, tmps, assign, body, h1, h2⟩ := h K w vals hi ha
  refine ⟨fn, tmps, assign, body, h1, h2.mono fun e w' hp => ?_⟩
  obtain ⟨r, S', K', e1, e2, e3, e4⟩ := hp
  exact ⟨r, S', K', e1, e2, e3, hr _ _ e4⟩

/-- The operation that calls yield, in the iterator's own frame. -/
theorem LStep.yield {G : Ctx} {n : Nat} {o : Oper} {Q : (Nat → TV) → LS → Prop} {T : Nat → TV} {S : LS} {f : Operand} {xs : List Operand} {ts : Array TypeId} {l : Nat} {args : List TV} {R : Bool → LS → Prop} {d : Nat}
    (ho : o.op = .call { callee := .value f, args := xs.toArray, argTypes := ts }) (hf : lev T f = .one (.v (.func (.yield l) #[] #[]))) (hx : xs.map (fun x => shTV (lev T x)) = args) (hd : o.dst = some d) (hn : Nat.blt d n = true)
    (h : LYield G l args R S) (hq : ∀ r S', R r S' → Q (upd T d (.one (.v (.bool r)))) S') : LStep G none n o Q T S := by
  intro m K w a hi hr hm
  have h1 := hr.eval f
  rw [hf] at h1
  have ha : ArgsRel G w K args (xs.map a.eval).toArray := by
    subst hx
    refine ⟨by simp, fun i x v hx' hv => ?_⟩
    rw [List.getElem?_map] at hx'
    rw [List.getElem?_toArray, List.getElem?_map] at hv
    cases hq : xs[i]? with
    | none => rw [hq] at hx'; simp at hx'
    | some y =>
      rw [hq] at hx' hv
      simp only [Option.map_some, Option.some.injEq] at hx' hv
      subst hx'; subst hv
      exact (hr.eval y).shTV
  obtain ⟨fn, tmps, assign, body, e1, e2⟩ := h K w _ hi ha
  refine ⟨fun f _ => trivial, ?_⟩
  have hrun : (o.semAt (fen none).round a.eval).run G.P w = .ok (.round l fn tmps assign body) w := by
    show (execOp a.eval o).run G.P w = _
    have := h1.flat
    simp [execOp, ho, resolve, this, Deferred.ofValue, invoke, e1]
  rw [hrun]
  refine ⟨fun hd => by simp [fen, Fence.wide] at hd, e2.mono fun e w' hp => ?_⟩
  obtain ⟨r, S', K', rfl, j1, j2, j3⟩ := hp
  refine ⟨upd T d (.one (.v (.bool r))), S', K', j1, ?_, by rw [put_defers]; exact hm.mono j2, j2, hq _ _ j3⟩
  have := (hr.mono j2).put (dst := o.dst) (r := .one (.v (.bool r))) (v := .bool r) (by rw [hd]; exact hn) (.raw rfl)
  rw [hd] at this ⊢
  exact this

theorem LOps.yield {G : Ctx} {n : Nat} {ops : Array Oper} {o : Oper} {os : List Oper} {Q : (Nat → TV) → LS → Prop} {T : Nat → TV} {S : LS} {f : Operand} {xs : List Operand} {ts : Array TypeId} {l : Nat} {args : List TV} {R : Bool → LS → Prop} {d : Nat}
    (ho : o.op = .call { callee := .value f, args := xs.toArray, argTypes := ts }) (hf : lev T f = .one (.v (.func (.yield l) #[] #[]))) (hx : xs.map (fun x => shTV (lev T x)) = args) (hg : wantedT ops T o = some true) (hd : o.dst = some d) (hn : Nat.blt d n = true)
    (h : LYield G l args R S) (hq : ∀ r S', R r S' → LOps G none n ops os Q (upd T d (.one (.v (.bool r)))) S') : LOps G none n ops (o :: os) Q T S :=
  .stepG hg (LStep.yield ho hf hx hd hn h hq)

/-- An iterator's contract: it yields these, one behind the other, or a first part of them. -/
def LIter (G : Ctx) (gf : FuncId) (lb : Array Value) (C : LS → Prop) (xs : List (List TV)) : Prop :=
  ∀ (l : Nat) (I Ix : Nat → LS → Prop) (S : LS), (∀ k S S', I k S → S.le S' → I k S') → (∀ k S S', Ix k S → S.le S' → Ix k S') → (∀ k S, I k S → C S) →
    (∀ k x S, xs[k]? = some x → I k S → LYield G l x (fun r S' => (r = true ∧ I (k + 1) S') ∨ (r = false ∧ Ix (k + 1) S')) S) → I 0 S →
    LCalls G gf (.one (.v (.func (.yield l) #[] #[])) :: lb.toList.map fun v => .one (.v v)) (fun _ S' => I xs.length S' ∨ ∃ k, k ≤ xs.length ∧ Ix k S') S

/-- The slots with a round's values in the loop's variables. -/
def setPs (T : Nat → TV) : List Tmp → List TV → (Nat → TV)
  | p :: ps, x :: xs => setPs (upd T p x) ps xs
  | _, _ => T

theorem RelT.setPs {G : Ctx} {w : World} {K : Kept} {n : Nat} : ∀ (ps : List Tmp) (args : List TV) (vals : List Value) (T : Nat → TV) (tmps : Array Value) (ds : List Deferred), ps.all (fun p => Nat.blt p n) = true → vals.length = args.length →
    (∀ (i : Nat) x v, args[i]? = some x → vals[i]? = some v → RepT G w K x v) → RelT G w K n T { tmps := tmps, defers := ds } → RelT G w K n (setPs T ps args) { tmps := (ps.zip vals).foldl (fun t (p, v) => t.setIfInBounds p v) tmps, defers := ds } := by
  intro ps
  induction ps with
  | nil => intro args vals T tmps ds _ _ _ h; cases args <;> exact h
  | cons p ps ih =>
    intro args vals T tmps ds hp hl ha h
    simp only [List.all_cons, Bool.and_eq_true] at hp
    cases args with
    | nil =>
      obtain rfl : vals = [] := List.length_eq_zero_iff.1 hl
      exact h
    | cons x args =>
      cases vals with
      | nil => simp at hl
      | cons v vals =>
        have h1 := h.put (dst := some p) (r := x) (v := v) hp.1 (ha 0 x v rfl rfl)
        exact ih args vals (upd T p x) (tmps.setIfInBounds p v) ds hp.2 (by simpa using hl) (fun i y u hy hu => ha (i + 1) y u hy hu) h1

def LS.setObj (S : LS) (b : Nat) (o : Obj) : LS := { S with obj := fun x => bif Nat.beq x b then some o else S.obj x, top := max S.top (b + 1) }
def LS.delObj (S : LS) (b : Nat) : LS := { S with obj := fun x => bif Nat.beq x b then Option.none else S.obj x }

/-- A loop's record is turned. -/
theorem Inv.putObj {G : Ctx} {S : LS} {K : Kept} {w : World} (h : Inv G S K w) {D : Nat} {o o' : Obj} (hB : G.base ≤ D) (hlt : D < w.heap.size) (ho : w.heap[D]? = some o) (hc : o.isCells = false) (hc' : o'.isCells = false) (hd : o' ≠ .deferred (some [])) (hod : o ≠ .deferred (some [])) :
    Inv G (S.setObj D o') K (w.putObj D o') ∧ Ext K w K (w.putObj D o') := by
  have hk := h.notMark ho hc
  have hother : ∀ b, b ≠ D → (w.putObj D o').heap[b]? = w.heap[b]? := fun b hb => World.putObj_heap_other hb
  have hsame : (w.putObj D o').heap[D]? = some o' := World.putObj_heap_same hlt
  have hx : Ext K w K (w.putObj D o') := by
    refine ⟨fun b j hb => ⟨hb, World.cell?_of_block (a := ⟨b, j, Option.none⟩) (hother b fun e => hk j (by rw [← e]; exact hb))⟩, fun b s hs => ?_, by simp, fun b hb => ?_⟩
    · have : b ≠ D := fun e => by
        subst e
        simp only [World.shape?, ho] at hs
        cases o <;> first | (simp at hs; done) | (simp [Obj.isCells] at hc)
      simp only [World.shape?, hother b this] at hs ⊢
      exact hs
    · have : b ≠ D := fun e => by subst e; rw [ho] at hb; exact hod (by simpa using hb)
      rw [hother b this]; exact hb
  refine ⟨⟨?_, ?_, fun b j hb => ?_, fun b cs hb => ?_, fun b T n hb => ?_, fun b o2 hb => ?_, ?_, G.stable _ _ _ _ h.since hx⟩, hx⟩
  · exact h.below.trans ⟨rfl, rfl, rfl, by simp, fun k hk' => hother k (by omega)⟩
  · simpa using h.base
  · rw [(hx.kept b j hb).2]; exact h.live b j hb
  · have hb' : S.box b = some cs := hb
    obtain ⟨h1, h2, c, T, h3, h4, h5, h6⟩ := h.box b cs hb'
    have : b ≠ D := fun e => by
      subst e
      rw [ho] at h3
      obtain rfl : o = Obj.cells c T (0, 0) := by simpa using h3
      simp [Obj.isCells] at hc
    exact ⟨h1, by simp only [LS.setObj]; omega, c, T, by rw [hother b this]; exact h3, h4, fun j x v hj hv => (h5 j x v hj hv).mono hx, h6⟩
  · have hb' : S.row b = some (T, n) := hb
    obtain ⟨h1, h2, h3, c, h4, h5⟩ := h.row b T n hb'
    have : b ≠ D := fun e => by
      subst e
      rw [ho] at h4
      obtain rfl : o = Obj.cells c T (0, 0) := by simpa using h4
      simp [Obj.isCells] at hc
    exact ⟨h1, by simp only [LS.setObj]; omega, h3, c, by rw [hother b this]; exact h4, h5⟩
  · simp only [LS.setObj] at hb ⊢
    rcases beq_cases b D (some o') (S.obj b) with ⟨rfl, e⟩ | ⟨hne, e⟩
    · rw [e] at hb
      obtain rfl : o' = o2 := by simpa using hb
      exact ⟨hB, by omega, hsame, hc', hd⟩
    · rw [e] at hb
      obtain ⟨h1, h2, h3, h4, h5⟩ := h.obj b o2 hb
      exact ⟨h1, by omega, by rw [hother b hne]; exact h3, h4, h5⟩
  · have := h.top
    simp only [LS.setObj, World.putObj_size]; omega

theorem setObj_obj (S : LS) (b : Nat) (o : Obj) : (S.setObj b o).obj b = some o := by simp [LS.setObj]

/-- A contract does not hang on what was before. -/
theorem Rep.ctx {G G' : Ctx} (hP : G.P = G'.P) {w : World} {K : Kept} {l : LV} {v : Value} (h : Rep G w K l v) : Rep G' w K l v := by
  induction h with
  | raw x h1 => exact .raw x h1
  | nil => exact .nil
  | emp a cap => exact .emp a cap
  | row o es b off cap z c hn hcap hz ho hc hr ih => exact .row o es b off cap z c hn hcap hz (by rw [← hP]; exact ho) hc ih
  | ptr l b off c h hr ih => exact .ptr l b off c h ih

theorem RepT.ctx {G G' : Ctx} (hP : G.P = G'.P) {w : World} {K : Kept} {l : TV} {v : Value} (h : RepT G w K l v) : RepT G' w K l v := by
  induction h with
  | one h => exact .one (h.ctx hP)
  | agg l vs hs h => exact .agg l vs hs fun j x v hj hv => (h j x v hj hv).ctx hP
  | tup l vs hs h ih => exact .tup l vs hs ih
  | ro l b off c h hr => exact .ro l b off c h fun j x hj => (hr j x hj).ctx hP
  | any v => exact .any v
  | when b r v h1 h0 ih => exact .when b r v ih h0

theorem RelT.ctx {G G' : Ctx} (hP : G.P = G'.P) {w : World} {K : Kept} {n : Nat} {T : Nat → TV} {a : Act} (h : RelT G w K n T a) : RelT G' w K n T a := ⟨h.1, fun i => (h.2 i).ctx hP⟩

theorem Inv.ctx {G G' : Ctx} (hP : G.P = G'.P) (hB : G.base = G'.base) (hW : G.W0 = G'.W0) {S : LS} {K : Kept} {w : World} (h : Inv G S K w) (hs : G'.since K w) : Inv G' S K w where
  below := hB ▸ hW ▸ h.below
  base := hB ▸ h.base
  live := h.live
  box := fun b cs hb => by
    obtain ⟨h1, h2, c, T, h3, h4, h5, h6⟩ := h.box b cs hb
    exact ⟨hB ▸ h1, h2, c, T, h3, h4, fun j x v hj hv => (h5 j x v hj hv).ctx hP, h6⟩
  row := fun b T n hb => by
    obtain ⟨h1, h2, h3, c, h4, h5⟩ := h.row b T n hb
    exact ⟨hB ▸ h1, h2, h3, c, h4, hP ▸ h5⟩
  obj := fun b o hb => by
    obtain ⟨h1, h2⟩ := h.obj b o hb
    exact ⟨hB ▸ h1, h2⟩
  top := h.top
  since := hs

/-- From one logical memory to the next, but for what a loop's record holds. -/
structure LS.leB (S S' : LS) : Prop where
  box : ∀ b cs, S.box b = some cs → S'.box b = some cs
  row : ∀ b x, S.row b = some x → S'.row b = some x
  top : S.top ≤ S'.top

theorem LS.leB.of_le {S S' : LS} (h : S.le S') : S.leB S' := ⟨h.box, h.row, h.top⟩
theorem LS.leB.setObj (S : LS) (b : Nat) (o : Obj) : S.leB (S.setObj b o) := ⟨fun _ _ h => h, fun _ _ h => h, Nat.le_max_left _ _⟩

/-- A new block that is not cells. -/
theorem Inv.newObj {G : Ctx} {S : LS} {K : Kept} {w : World} (h : Inv G S K w) (o : Obj) (hc : o.isCells = false) (hd : o ≠ .deferred (some [])) : Inv G (S.setObj w.heap.size o) K (w.alloc o) := by
  have ha := h.alloc o
  have ht := h.top
  refine { ha with box := fun b cs hb => ?_, row := fun b T n hb => ?_, obj := fun b o2 hb => ?_, top := by simp only [LS.setObj, World.size_alloc]; omega }
  · obtain ⟨h1, h2, h3⟩ := ha.box b cs hb
    exact ⟨h1, by simp only [LS.setObj]; omega, h3⟩
  · obtain ⟨h1, h2, h3⟩ := ha.row b T n hb
    exact ⟨h1, by simp only [LS.setObj]; omega, h3⟩
  · simp only [LS.setObj] at hb ⊢
    rcases beq_cases b w.heap.size (some o) (S.obj b) with ⟨rfl, e⟩ | ⟨hne, e⟩
    · rw [e] at hb
      obtain rfl : o = o2 := by simpa using hb
      exact ⟨h.base, by omega, heap_alloc_new w _, hc, hd⟩
    · rw [e] at hb
      obtain ⟨h1, h2, h3⟩ := ha.obj b o2 hb
      exact ⟨h1, by omega, h3⟩

/-- What a round's end asks. -/
def RoundPost (l : Nat) (o : Obj) (I : LS → Prop) (Ix : Code → LS → Prop) : Exit → (Nat → TV) → LS → Prop
  | .normal, _, S => S.obj l = some o ∧ I S
  | .exit id, _, S => S.obj l = some o ∧ Ix (.exit id) S
  | .ret, _, S => S.obj l = some o ∧ Ix .ret S
  | _, _, _ => False

theorem LWp.rangeFunc {G : Ctx} {n : Nat} {g : Operand} {ps : List Tmp} {assign body : Code} {Q : Exit → (Nat → TV) → LS → Prop} {T : Nat → TV} {S : LS} {gf : FuncId} {fn : Func} {c : Code} {lb : Array Value} {xs : List (List TV)} {C : LS → Prop}
    (hg : lev T g = .one (.v (.func (.func gf) #[] lb))) (hf : G.P.funcs[gf]? = some fn) (hname : (fn.name == "runtime.NumGoroutine") = false) (hb : fn.body = some c) (hlb : lb.toList.all (fun v => v.oneCell') = true)
    (hps : ps.all (fun p => Nat.blt p n) = true) (hlen : ∀ x ∈ xs, x.length = ps.length) (it : ∀ G' : Ctx, G'.P = G.P → LIter G' gf lb C xs)
    (I : Nat → LS → Prop) (Ix : Code → Nat → LS → Prop) (hI : ∀ k S S', I k S → S.leB S' → I k S') (hIx : ∀ c k S S', Ix c k S → S.leB S' → Ix c k S') (hC : ∀ k S, I k S → C S) (h0 : I 0 S)
    (round : ∀ l k x S2 o, xs[k]? = some x → I k S2 → S2.obj l = some o → LWp G (some l) n assign (fun e T1 S3 => e = .normal ∧ S3.obj l = some o ∧ ∀ o', LWp G (some l) n body (RoundPost l o' (I (k + 1)) fun c => Ix c (k + 1)) T1 (S3.setObj l o')) (setPs T ps x) S2)
    (done : ∀ S', I xs.length S' → Q .normal T S') (stop : ∀ c k S', k ≤ xs.length → Ix c k S' → LWp G none n c Q T S') :
    LWp G none n (.rangeFunc g ps.toArray assign body) Q T S := by
  intro m K w a hi hr hm
  refine wpIn_rangeFunc (F := Fence.wide) ?_
  intro fn0 hfn
  obtain ⟨rec, hrec⟩ : ∃ rec : LoopState → Option Code → Loop, rec = fun st pe => { state := st, pending := pe, fn := fn0, tmps := a.tmps, params := ps.toArray, assign, body, defers := w.heap.size } := ⟨_, rfl⟩
  obtain ⟨W1, hW1⟩ : ∃ W1, (w.alloc (.deferred (some []))).alloc (.loop (rec .ready Option.none)) = W1 := ⟨_, rfl⟩
  have hx1 : Ext K w K W1 := by rw [← hW1]; exact (Ext.alloc hi _).trans (Ext.alloc (hi.alloc _) _)
  have hi1 : Inv G (S.setObj (w.heap.size + 1) (.loop (rec .ready Option.none))) K W1 := by
    have := (hi.alloc (.deferred (some []))).newObj (.loop (rec .ready Option.none)) rfl (by simp)
    rw [World.size_alloc] at this
    rw [← hW1]; exact this
  have hmark1 : W1.heap[w.heap.size]? = some (.deferred (some [])) := by
    rw [← hW1]; exact (Below.heap_alloc _ _ _ (by simp)).trans (World.alloc_heap_new w _)
  let G' : Ctx := { G with since := fun K' w' => G.since K' w' ∧ Ext K W1 K' w', stable := fun K1 w1 K2 w2 h hx => ⟨G.stable _ _ _ _ h.1 hx, h.2.trans hx⟩ }
  have to' : ∀ {S K' w'}, Inv G S K' w' → Ext K W1 K' w' → Inv G' S K' w' := fun h hx => Inv.ctx (G := G) (G' := G') rfl rfl rfl h ⟨h.since, hx⟩
  have from' : ∀ {S K' w'}, Inv G' S K' w' → Inv G S K' w' := fun h => Inv.ctx (G := G') (G' := G) rfl rfl rfl h h.since.1
  have hgv : a.eval g = .func (.func gf) #[] lb := by
    have := hr.eval g
    rw [hg] at this
    exact this.flat
  have eg : ∀ args w, (callFunc gf args).run G.P w = .ok (.enter gf args) w := fun args w => by
    have hn : fn.name ≠ "runtime.NumGoroutine" := fun e => by rw [e] at hname; simp at hname
    simp [callFunc, hf, hn, hb]
  refine ⟨w.heap.size + 1, [{ target := .collected w.heap.size, args := #[] }], W1, { target := .fn (.func gf) lb, args := #[.func (.yield (w.heap.size + 1)) #[] #[]] }, W1, gf,
    #[.func (.yield (w.heap.size + 1)) #[] #[]] ++ lb, W1, ?_, ?_, fun _ _ => trivial, ?_, fun hd => by simp [Fence.wide] at hd, ?_⟩
  · rw [← hW1, hrec]; exact run_enterLoop_outer _ _ _ _ _
  · simp only [resolve, hgv]
    simp [go_sem]
  · simp [invoke, go_sem, eg]
  have hcall := it G' rfl (w.heap.size + 1) (fun k S => I k S ∧ S.obj (w.heap.size + 1) = some (.loop (rec .ready Option.none)))
    (fun k S => ∃ c, Ix c k S ∧ S.obj (w.heap.size + 1) = some (.loop (rec .done (some c)))) (S.setObj (w.heap.size + 1) (.loop (rec .ready Option.none)))
    (fun k S S' h hle => ⟨hI k S S' h.1 (.of_le hle), hle.obj _ _ h.2⟩) (fun k S S' ⟨c, h, h'⟩ hle => ⟨c, hIx c k S S' h (.of_le hle), hle.obj _ _ h'⟩) (fun k S h => hC k S h.1) ?_
    ⟨hI 0 _ _ h0 (.setObj _ _ _), setObj_obj _ _ _⟩ K W1 (#[.func (.yield (w.heap.size + 1)) #[] #[]] ++ lb) (to' hi1 (.refl _ _)) ?_
  · refine callsIn_wide.2 (hcall.mono fun e W2 hp => ?_)
    obtain ⟨r, v, S2, K2, rfl, h2, h3, h4, h5⟩ := hp
    have hi2 := from' h3
    have hxw : Ext K w K2 W2 := hx1.trans h4
    have fin : ∀ (st : LoopState) (pe : Option Code), S2.obj (w.heap.size + 1) = some (.loop (rec st pe)) → st ≠ .busy →
        (Instr.endLoop (w.heap.size + 1)).run G.P W2 = .ok pe (W2.putObj (w.heap.size + 1) (.loop (rec .exhausted pe))) ∧
        Inv G (S2.setObj (w.heap.size + 1) (.loop (rec .exhausted pe))) K2 (W2.putObj (w.heap.size + 1) (.loop (rec .exhausted pe))) ∧
        RelT G (W2.putObj (w.heap.size + 1) (.loop (rec .exhausted pe))) K2 n T { a with defers := [{ target := .collected w.heap.size, args := #[] }] ++ a.defers } ∧
        Marks m (W2.putObj (w.heap.size + 1) (.loop (rec .exhausted pe))) ([{ target := .collected w.heap.size, args := #[] }] ++ a.defers) ∧
        Ext K w K2 (W2.putObj (w.heap.size + 1) (.loop (rec .exhausted pe))) := by
      intro st pe ho hst
      obtain ⟨o1, o2, o3, o4, o5⟩ := hi2.obj _ _ ho
      have hend : (Instr.endLoop (w.heap.size + 1)).run G.P W2 = .ok pe (W2.putObj (w.heap.size + 1) (.loop (rec .exhausted pe))) := by
        have := run_endLoop (P := G.P) o3 (by rw [hrec]; exact hst)
        rw [hrec] at this ⊢
        exact this
      obtain ⟨p1, p2⟩ := hi2.putObj (o := .loop (rec st pe)) (o' := .loop (rec .exhausted pe)) o1 (Array.getElem?_eq_some_iff.1 o3).1 o3 rfl rfl (by simp) (by simp)
      have hxx := hxw.trans p2
      refine ⟨hend, p1, ⟨hr.1, fun i => (hr.2 i).mono hxx⟩, ?_, hxx⟩
      obtain ⟨m0, Ds, m1, m2, m3⟩ := hm
      refine ⟨Nat.le_trans m0 hxx.size, w.heap.size :: Ds, by rw [m1]; rfl, List.nodup_cons.2 ⟨fun hin => ?_, m2⟩, fun D hD => ?_⟩
      · have := (Array.getElem?_eq_some_iff.1 (m3 _ hin).2).1
        omega
      · rcases List.mem_cons.1 hD with rfl | hD
        · exact ⟨m0, (h4.trans p2).marks _ hmark1⟩
        · exact ⟨(m3 D hD).1, hxx.marks D (m3 D hD).2⟩
    rcases h5 with ⟨h5, h6⟩ | ⟨k, hk, c, h5, h6⟩
    · obtain ⟨f1, f2, f3, f4, f5⟩ := fin _ _ h6 (by simp)
      exact ⟨Option.none, _, f1, T, _, K2, f2, f3, f4, f5, done _ (hI _ _ _ h5 (.setObj _ _ _))⟩
    · obtain ⟨f1, f2, f3, f4, f5⟩ := fin _ _ h6 (by simp)
      exact ⟨some c, _, f1, wpIn_mono (stop c k _ hk (hIx _ _ _ _ h5 (.setObj _ _ _)) m K2 _ _ f2 f3 f4) fun e a' w' hp => hp.trans f5⟩
  · -- one round
    rintro k x S2 hxk ⟨hk1, hk2⟩ K2 w2 vals hi2' ha
    have hi2 := from' hi2'
    have hx2 : Ext K W1 K2 w2 := hi2'.since.2
    obtain ⟨o1, o2, o3, o4, o5⟩ := hi2.obj _ _ hk2
    have hsize : vals.size = ps.length := by rw [ha.1]; exact hlen x (List.mem_of_getElem? hxk)
    have hy := run_yield (P := G.P) (args := vals) o3 (by rw [hrec]; simpa using hsize)
    rw [hrec] at hy
    refine ⟨fn0, _, assign, body, hy, roundIn_of_wpIn trivial ?_⟩
    have hrel : RelT G w2 K2 n (setPs T ps x) { tmps := (ps.toArray.zip vals).foldl (fun t (p, v) => t.setIfInBounds p v) a.tmps, defers := [] } := by
      have := RelT.setPs (G := G) (w := w2) (K := K2) (n := n) ps x vals.toList T a.tmps [] hps (by simpa using ha.1) (fun i y v hy hv => RepT.ctx (G := G') (G' := G) rfl (ha.2 i y v hy (by simpa using hv))) ⟨hr.1, fun i => (hr.2 i).mono (hx1.trans hx2)⟩
      have e : (ps.toArray.zip vals).foldl (fun t (p, v) => t.setIfInBounds p v) a.tmps = (ps.zip vals.toList).foldl (fun t (p, v) => t.setIfInBounds p v) a.tmps := by
        rw [← Array.foldl_toList]; simp
      rw [e]; exact this
    refine wpIn_mono (round (w.heap.size + 1) k x S2 _ hxk hk1 hk2 w2.heap.size K2 w2 _ hi2 hrel (Marks.nil _)) fun e a3 w3 hp => ?_
    obtain ⟨T3, S3, K3, i1, i2, i3, i4, rfl, i5, i6⟩ := hp
    obtain ⟨q1, q2, q3, q4, q5⟩ := i1.obj _ _ i5
    obtain ⟨p1, p2⟩ := i1.putObj (o := .loop (rec .ready Option.none)) (o' := .loop (rec .busy Option.none)) q1 (Array.getElem?_eq_some_iff.1 q3).1 q3 rfl rfl (by simp) (by simp)
    have hbegin : (Instr.beginRound (w.heap.size + 1)).run G.P w3 = .ok () (w3.putObj (w.heap.size + 1) (.loop (rec .busy Option.none))) := by
      have := run_beginRound (P := G.P) q3 (by rw [hrec])
      rw [hrec] at this ⊢
      exact this
    refine ⟨_, hbegin, ?_⟩
    refine wpIn_mono (i6 _ _ K3 _ a3 p1 (i2.mono p2) (i3.mono p2)) fun e a4 w4 hp => ?_
    obtain ⟨T4, S4, K4, j1, j2, j3, j4, j5⟩ := hp
    have fin : ∀ (jump : Option Code), S4.obj (w.heap.size + 1) = some (.loop (rec .busy Option.none)) →
        (Instr.endRound (w.heap.size + 1) jump).run G.P w4 = .ok (.bool jump.isNone) (w4.putObj (w.heap.size + 1) (.loop (rec (if jump.isNone then .ready else .done) jump))) ∧
        Inv G' (S4.setObj (w.heap.size + 1) (.loop (rec (if jump.isNone then .ready else .done) jump))) K4 (w4.putObj (w.heap.size + 1) (.loop (rec (if jump.isNone then .ready else .done) jump))) ∧
        Ext K2 w2 K4 (w4.putObj (w.heap.size + 1) (.loop (rec (if jump.isNone then .ready else .done) jump))) := by
      intro jump ho
      obtain ⟨r1, r2, r3, r4, r5⟩ := j1.obj _ _ ho
      obtain ⟨s1, s2⟩ := j1.putObj (o := .loop (rec .busy Option.none)) (o' := .loop (rec (if jump.isNone then .ready else .done) jump)) r1 (Array.getElem?_eq_some_iff.1 r3).1 r3 rfl rfl (by simp) (by simp)
      have := run_endRound (P := G.P) jump r3
      rw [hrec] at this ⊢
      rw [hrec] at s1 s2
      have hxx := ((i4.trans p2).trans j4).trans s2
      exact ⟨this, to' s1 (hx2.trans hxx), hxx⟩
    cases e with
    | normal =>
      obtain ⟨f1, f2, f3⟩ := fin Option.none j5.1
      exact ⟨_, _, f1, _, _, K4, rfl, f2, f3, .inl ⟨rfl, hI _ _ _ j5.2 (.setObj _ _ _), setObj_obj _ _ _⟩⟩
    | ret =>
      obtain ⟨f1, f2, f3⟩ := fin (some .ret) j5.1
      exact ⟨_, _, f1, _, _, K4, rfl, f2, f3, .inr ⟨rfl, .ret, hIx _ _ _ _ j5.2 (.setObj _ _ _), setObj_obj _ _ _⟩⟩
    | exit id =>
      obtain ⟨f1, f2, f3⟩ := fin (some (.exit id)) j5.1
      exact ⟨_, _, f1, _, _, K4, rfl, f2, f3, .inr ⟨rfl, .exit id, hIx _ _ _ _ j5.2 (.setObj _ _ _), setObj_obj _ _ _⟩⟩
    | _ => exact j5.elim
  · -- the arguments
    refine ⟨by simp; omega, fun i x v hx hv => ?_⟩
    cases i with
    | zero =>
      obtain rfl : .one (.v (.func (.yield (w.heap.size + 1)) #[] #[])) = x := by simpa using hx
      rw [Array.getElem?_append_left (by simp)] at hv
      obtain rfl : .func (.yield (w.heap.size + 1)) #[] #[] = v := by simpa using hv
      exact .raw rfl
    | succ i =>
      simp only [List.getElem?_cons_succ, List.getElem?_map] at hx
      rw [Array.getElem?_append_right (by simp)] at hv
      simp only [List.size_toArray, List.length_cons, List.length_nil, Nat.add_sub_cancel, Nat.zero_add, Array.getElem?_toList] at hx hv
      rw [hv] at hx
      obtain rfl : .one (.v v) = x := by simpa using hx
      refine .raw ?_
      rw [List.all_eq_true] at hlb
      exact hlb v (Array.mem_toList_iff.2 (Array.mem_of_getElem? hv))

end Go.Proofs.Ytgkjhlmfgaaddaa.LF
end

section
/- A region whose order is drawn, some of its operations turning the memory one behind the other. -/
namespace Go.Proofs.Ytgkjhlmfgaaddaa.LF
open Go.RowKit
set_option linter.unusedVariables false

/-- What an operation that only reads may lean on. -/
structure LS.leX (X : Nat → Prop) (S S' : LS) : Prop where
  box : ∀ b cs, S.box b = some cs → ¬ X b → S'.box b = some cs
  obj : ∀ b o, S.obj b = some o → S'.obj b = some o
abbrev LS.leV : LS → LS → Prop := LS.leX fun _ => False

theorem LS.leX.refl {X : Nat → Prop} (S : LS) : S.leX X S := ⟨fun _ _ h _ => h, fun _ _ h => h⟩
theorem LS.leX.trans {X : Nat → Prop} {S S' S'' : LS} (h : S.leX X S') (k : S'.leX X S'') : S.leX X S'' := ⟨fun b c hb hx => k.box b c (h.box b c hb hx) hx, fun b c hb => k.obj b c (h.obj b c hb)⟩
theorem LS.leX.of_le {X : Nat → Prop} {S S' : LS} (h : S.le S') : S.leX X S' := ⟨fun b c hb _ => h.box b c hb, h.obj⟩

def getO (ord : List Nat) (q : Nat) : Nat := ord.getD q 0

/-- What the slots hold, the operations of a set being done in an order. -/
def pv (ops : List Oper) (ord : List Nat) (T0 : Nat → TV) (r : Nat → TV) (L : Nat → Bool) : Nat → (Nat → TV)
  | 0 => T0
  | m + 1 => bif L (getO ord m) then putT (pv ops ord T0 r L m) ((ops[getO ord m]?).bind (·.dst)) (r (getO ord m)) else pv ops ord T0 r L m

def edgesOK (ops : List Oper) : Bool := (List.range ops.length).all fun j => match ops[j]? with
  | none => true
  | some y => y.after.toList.all fun e => !Region.binds .any e || Nat.blt e.on j

def ordOK (ops : List Oper) (ord : List Nat) : Bool :=
  let B := befores ops []
  edgesOK ops && Nat.beq ord.length ops.length && (List.range ops.length).all (fun i => ord.any (Nat.beq i)) && (List.range ord.length).all (fun q => Nat.blt (getO ord q) ops.length) &&
  (List.range ord.length).all fun q => (List.range q).all fun p => !Nat.beq (getO ord p) (getO ord q) && match ops[getO ord p]?, ops[getO ord q]? with
    | some x, some y => !clash ops x y || (B.getD (getO ord q) 0).testBit (getO ord p)
    | _, _ => true

/-- All that comes behind it hangs on it. -/
def laterAll (ops : List Oper) (ord : List Nat) (p : Nat) : Bool :=
  let B := befores ops []
  (List.range ord.length).all fun q => !Nat.blt p q || (B.getD (getO ord q) 0).testBit (getO ord p)
/-- It hangs on all that comes ahead of it. -/
def earlierAll (ops : List Oper) (ord : List Nat) (p : Nat) : Bool :=
  let B := befores ops []
  (List.range p).all fun q => (B.getD (getO ord p) 0).testBit (getO ord q)

theorem edges_on {ops : List Oper} (h : edgesOK ops = true) {j : Nat} {y : Oper} (hy : ops[j]? = some y) (e : Edge) (he : e ∈ y.after) (hb : Region.binds .any e = true) : e.on < j := by
  have hj : j < ops.length := (List.getElem?_eq_some_iff.1 hy).1
  simp only [edgesOK, List.all_eq_true] at h
  have h1 := h j (List.mem_range.2 hj)
  rw [hy] at h1
  simp only [List.all_eq_true] at h1
  have := h1 e (by simpa using he)
  rw [hb] at this
  simpa [Nat.blt_eq] using this

theorem before_dep' {ops : List Oper} {j k : Nat} {y : Oper} (hon : edgesOK ops = true) (hy : ops[j]? = some y) (h : ((befores ops []).getD j 0).testBit k = true) :
    ∃ e ∈ y.after, Region.binds .any e = true ∧ (k = e.on ∨ ((befores ops []).getD e.on 0).testBit k = true) := by
  have hg := befores_get ops [] j y hy
  simp only [List.length_nil, Nat.zero_add] at hg
  rw [List.getD_eq_getElem?_getD, hg] at h
  simp only [Option.getD_some, maskOf] at h
  rcases mask_bit _ k _ 0 h with h | ⟨e, he, hb, h⟩
  · simp at h
  · have he' : e ∈ y.after := by simpa using he
    refine ⟨e, he', hb, h.imp id fun h => ?_⟩
    have hlt := edges_on hon hy e he' hb
    rw [List.getD_eq_getElem?_getD, List.getElem?_take, if_pos hlt, ← List.getD_eq_getElem?_getD] at h
    exact h

structure OrdOK (ops : List Oper) (ord : List Nat) : Prop where
  edges : edgesOK ops = true
  len : ord.length = ops.length
  all : ∀ i, i < ops.length → ∃ q, q < ord.length ∧ getO ord q = i
  inn : ∀ q, q < ord.length → getO ord q < ops.length
  inj : ∀ p q, p < ord.length → q < ord.length → getO ord p = getO ord q → p = q
  clash : ∀ p q x y, p < q → q < ord.length → ops[getO ord p]? = some x → ops[getO ord q]? = some y → clash ops x y = true → ((befores ops []).getD (getO ord q) 0).testBit (getO ord p) = true

theorem OrdOK.of {ops : List Oper} {ord : List Nat} (h : ordOK ops ord = true) : OrdOK ops ord := by
  simp only [ordOK, Bool.and_eq_true, List.all_eq_true] at h
  obtain ⟨⟨⟨⟨h1, h2⟩, h3⟩, h5⟩, h4⟩ := h
  have hlen := Nat.eq_of_beq_eq_true h2
  have hpair : ∀ p q, p < q → q < ord.length → getO ord p ≠ getO ord q := fun p q hpq hq e => by
    have := (h4 q (List.mem_range.2 hq) p (List.mem_range.2 hpq)).1
    rw [e] at this; simp at this
  refine ⟨h1, hlen, fun i hi => ?_, fun q hq => by simpa [Nat.blt_eq] using h5 q (List.mem_range.2 hq), fun p q hp hq e => ?_, fun p q x y hpq hq hx hy hc => ?_⟩
  · have := h3 i (List.mem_range.2 hi)
    rw [List.any_eq_true] at this
    obtain ⟨k, hk, he⟩ := this
    obtain rfl := Nat.eq_of_beq_eq_true he
    obtain ⟨q, hq, rfl⟩ := List.mem_iff_getElem.1 hk
    exact ⟨q, hq, by simp [getO, List.getD_eq_getElem?_getD, hq]⟩
  · rcases Nat.lt_trichotomy p q with h | h | h
    · exact absurd e (hpair p q h hq)
    · exact h
    · exact absurd e.symm (hpair q p h hp)
  · have := (h4 q (List.mem_range.2 hq) p (List.mem_range.2 hpq)).2
    rw [hx, hy] at this
    simpa [hc] using this

theorem pv_seen {ops : List Oper} {ord : List Nat} (hok : OrdOK ops ord) {L : Nat → Bool} (hc : Closed ops L) {T0 : Nat → TV} {r : Nat → TV} {q : Nat} {y : Oper} (hq : q < ord.length) (hy : ops[getO ord q]? = some y) (hj : L (getO ord q) = false)
    (hdep : ∀ e ∈ y.after, Region.binds .any e = true → L e.on = true) {t : Nat} (ht : t ∈ looks ops y ∨ y.dst = some t) :
    ∀ m, m ≤ ord.length → pv ops ord T0 r L m t = pv ops ord T0 r (fun _ => true) (min m q) t := by
  have hbef : ∀ k, ((befores ops []).getD (getO ord q) 0).testBit k = true → L k = true := fun k hk => by
    obtain ⟨e, he, hb, h⟩ := before_dep' hok.edges hy hk
    rcases h with rfl | h
    · exact hdep e he hb
    · exact hc.out _ (hdep e he hb) _ h
  intro m
  induction m with
  | zero => intro _; simp [pv]
  | succ m ih =>
    intro hm
    have ih := ih (by omega)
    rcases Nat.lt_trichotomy m q with hlt | rfl | hgt
    · rw [show min (m + 1) q = m + 1 by omega]
      rw [show min m q = m by omega] at ih
      simp only [pv, cond_true]
      cases hx : ops[getO ord m]? with
      | none =>
        simp only [Option.bind_none]
        have : ∀ (T : Nat → TV) v, putT T none v = T := fun _ _ => rfl
        rw [this, this]
        cases L (getO ord m) <;> exact ih
      | some x =>
        simp only [Option.bind_some]
        by_cases hd : x.dst = some t
        · have := hbef _ (hok.clash m q x y hlt hq hx hy (clash_of_write hd ht))
          rw [this, hd]
          simp only [cond_true, putT_eq]
        · rw [putT_ne _ _ _ hd, ← ih]
          cases L (getO ord m)
          · rfl
          · simp only [cond_true]; rw [putT_ne _ _ _ hd]
    · rw [show min (m + 1) m = m by omega]
      rw [show min m m = m by omega] at ih
      simp only [pv, hj, cond_false]
      exact ih
    · rw [show min (m + 1) q = q by omega]
      rw [show min m q = q by omega] at ih
      simp only [pv]
      cases hx : ops[getO ord m]? with
      | none =>
        simp only [Option.bind_none]
        have : ∀ (T : Nat → TV) v, putT T none v = T := fun _ _ => rfl
        rw [this]
        cases L (getO ord m) <;> exact ih
      | some x =>
        simp only [Option.bind_some]
        by_cases hd : x.dst = some t
        · have hb := hok.clash q m y x hgt (by omega) hy hx (clash_of_read hd ht)
          have : L (getO ord m) = false := by
            cases hL : L (getO ord m) with
            | false => rfl
            | true => have := hc.out _ hL _ hb; rw [hj] at this; cases this
          rw [this]; simp only [cond_false]; exact ih
        · rw [← ih]
          cases L (getO ord m)
          · rfl
          · simp only [cond_true]; rw [putT_ne _ _ _ hd]

theorem pv_put {ops : List Oper} {ord : List Nat} (hok : OrdOK ops ord) {L : Nat → Bool} (hc : Closed ops L) {T0 : Nat → TV} {r : Nat → TV} {q : Nat} {y : Oper} (hq : q < ord.length) (hy : ops[getO ord q]? = some y) (hj : L (getO ord q) = false) (t : Nat) :
    ∀ m, m ≤ ord.length → pv ops ord T0 r (withJ L (getO ord q)) m t = if q < m then putT (pv ops ord T0 r L m) y.dst (r (getO ord q)) t else pv ops ord T0 r L m t := by
  intro m
  induction m with
  | zero => intro _; simp [pv]
  | succ m ih =>
    intro hm
    have ih := ih (by omega)
    rcases Nat.lt_trichotomy m q with hlt | rfl | hgt
    · rw [if_neg (by omega)]
      rw [if_neg (by omega)] at ih
      have hne : getO ord m ≠ getO ord q := fun e => by have := hok.inj m q (by omega) hq e; omega
      simp only [pv, withJ_ne L hne]
      cases L (getO ord m)
      · simpa using ih
      · simp only [cond_true]
        by_cases hd : (ops[getO ord m]?).bind (·.dst) = some t
        · rw [hd, putT_eq, putT_eq]
        · rw [putT_ne _ _ _ hd, putT_ne _ _ _ hd]; exact ih
    · rw [if_pos (by omega)]
      rw [if_neg (by omega)] at ih
      simp only [pv, hy, Option.bind_some, withJ_same, cond_true, hj, cond_false]
      by_cases hd : y.dst = some t
      · rw [hd, putT_eq, putT_eq]
      · rw [putT_ne _ _ _ hd, putT_ne _ _ _ hd]; exact ih
    · rw [if_pos (by omega)]
      rw [if_pos (by omega)] at ih
      have hne : getO ord m ≠ getO ord q := fun e => by have := hok.inj m q (by omega) hq e; omega
      simp only [pv, withJ_ne L hne]
      cases hL : L (getO ord m) with
      | false => simp only [cond_false]; exact ih
      | true =>
        simp only [cond_true]
        by_cases hd : (ops[getO ord m]?).bind (·.dst) = some t
        · obtain ⟨x, hx, hxd⟩ := Option.bind_eq_some_iff.1 hd
          have hyt : y.dst ≠ some t := fun e => by
            have hb := hok.clash q m y x hgt (by omega) hy hx (clash_of_write e (.inr hxd))
            have := hc.out _ hL _ hb
            rw [hj] at this; cases this
          rw [putT_ne _ _ _ hyt, hd, putT_eq, putT_eq]
        · rw [putT_ne _ _ _ hd, ih]
          by_cases hyt : y.dst = some t
          · rw [hyt, putT_eq, putT_eq]
          · rw [putT_ne _ _ _ hyt, putT_ne _ _ _ hyt, putT_ne _ _ _ hd]

/-- Only what was done counts. -/
theorem pv_congr {ops : List Oper} {ord : List Nat} {T0 : Nat → TV} {r r' : Nat → TV} {L : Nat → Bool} : ∀ m, (∀ q, q < m → L (getO ord q) = true → r' (getO ord q) = r (getO ord q)) → pv ops ord T0 r' L m = pv ops ord T0 r L m := by
  intro m
  induction m with
  | zero => intro _; rfl
  | succ m ih =>
    intro h
    simp only [pv]
    rw [ih fun q hq => h q (by omega)]
    cases hL : L (getO ord m) with
    | false => rfl
    | true => simp only [cond_true]; rw [h m (by omega) hL]

/-- Two of which either may come next, and all else hangs on one of them or came ahead. -/
def altOK (ops : List Oper) (ord ord2 : List Nat) (p : Nat) : Bool :=
  let B := befores ops []
  ordOK ops ord2 && Nat.beq ord2.length ord.length && Nat.blt (p + 1) ord.length && Nat.beq (getO ord2 p) (getO ord (p + 1)) && Nat.beq (getO ord2 (p + 1)) (getO ord p) && (List.range ord.length).all (fun q => Nat.beq q p || Nat.beq q (p + 1) || Nat.beq (getO ord2 q) (getO ord q)) &&
  (List.range ord.length).all fun q => !Nat.blt (p + 1) q || ((B.getD (getO ord q) 0).testBit (getO ord p) || (B.getD (getO ord q) 0).testBit (getO ord2 p))

structure AltOK (ops : List Oper) (ord ord2 : List Nat) (p : Nat) : Prop where
  hok : OrdOK ops ord2
  len : ord2.length = ord.length
  hp : p + 1 < ord.length
  s1 : getO ord2 p = getO ord (p + 1)
  s2 : getO ord2 (p + 1) = getO ord p
  same : ∀ q, q < ord.length → q ≠ p → q ≠ p + 1 → getO ord2 q = getO ord q
  cov : ∀ q, p + 1 < q → q < ord.length → ((befores ops []).getD (getO ord q) 0).testBit (getO ord p) = true ∨ ((befores ops []).getD (getO ord q) 0).testBit (getO ord2 p) = true

theorem AltOK.of {ops : List Oper} {ord ord2 : List Nat} {p : Nat} (h : altOK ops ord ord2 p = true) : AltOK ops ord ord2 p := by
  simp only [altOK, Bool.and_eq_true, List.all_eq_true] at h
  obtain ⟨⟨⟨⟨⟨⟨h1, h0⟩, h2⟩, h3⟩, h4⟩, h5⟩, h6⟩ := h
  refine ⟨.of h1, Nat.eq_of_beq_eq_true h0, by simpa [Nat.blt_eq] using h2, Nat.eq_of_beq_eq_true h3, Nat.eq_of_beq_eq_true h4, fun q hq n1 n2 => ?_, fun q hq hq2 => ?_⟩
  · have := h5 q (List.mem_range.2 hq)
    simp only [Bool.or_eq_true] at this
    rcases this with (h | h) | h
    · exact absurd (Nat.eq_of_beq_eq_true h) n1
    · exact absurd (Nat.eq_of_beq_eq_true h) n2
    · exact Nat.eq_of_beq_eq_true h
  · have := h6 q (List.mem_range.2 hq2)
    have hb : Nat.blt (p + 1) q = true := by rw [Nat.blt_eq]; exact hq
    rw [hb] at this
    simpa using this

/-- An operation that turns the logical memory; a call of yield is one, too. -/
def LAct (G : Ctx) (M : Option Nat) (o : Oper) (T : Nat → TV) (S : LS) (R : TV → LS → Prop) : Prop :=
  ∀ K w a (N : Act → World → Prop) (Q : Exit → Act → World → Prop), Inv G S K w → (∀ x ∈ o.op.operands, RepT G w K (lev T x) (a.eval x)) →
    (∀ r v S' K' w', RepT G w' K' r v → Inv G S' K' w' → Ext K w K' w' → R r S' → N (a.put o.dst v) w') → o.wpIn (fen M) 0 G.P a w N Q

theorem LDo.toAct {G : Ctx} {M : Option Nat} {o : Oper} {T : Nat → TV} {S : LS} {R : TV → LS → Prop} (h : LDo G o T S R) : LAct G M o T S R := by
  intro K w a N Q hi hr hn
  refine wpIn_of_wp (h K w a hi hr) fun a' w' hp => ?_
  obtain ⟨r, v, S', K', rfl, h2, h3, h4, h5⟩ := hp
  exact ⟨put_defers _ _ _, hn r v S' K' w' h2 h3 h4 h5⟩

/-- One hangs on another one that comes ahead. -/
def anc (ops : List Oper) (ord : List Nat) (q p : Nat) : Bool := ((befores ops []).getD (getO ord p) 0).testBit (getO ord q)

/-- The strategy: the operations in an order, each one giving a value whatever comes behind, or turning the memory. -/
inductive LR (X : Nat → Nat → Prop) (G : Ctx) (M : Option Nat) (n : Nat) (ops : List Oper) : List Nat → ((Nat → TV) → LS → Prop) → Nat → (Nat → TV) → LS → Prop
  | nil {ord : List Nat} {Q : (Nat → TV) → LS → Prop} {p : Nat} {T : Nat → TV} {S : LS} (hp : p = ord.length) (hq : Q T S) : LR X G M n ops ord Q p T S
  | val {ord : List Nat} {Q : (Nat → TV) → LS → Prop} {p : Nat} {T : Nat → TV} {S : LS} {o : Oper} {r : TV} (ho : ops[getO ord p]? = some o) (hp : Nat.blt p ord.length = true) (h : ∀ S', S.leX (X p) S' → LVal G o T S' r) (hg : wantedT ops.toArray T o = some true) (hd : dstOK n o.dst = true)
      (k : LR X G M n ops ord Q (p + 1) (putT T o.dst r) S) : LR X G M n ops ord Q p T S
  | skip {ord : List Nat} {Q : (Nat → TV) → LS → Prop} {p : Nat} {T : Nat → TV} {S : LS} {o : Oper} (ho : ops[getO ord p]? = some o) (hp : Nat.blt p ord.length = true) (hg : wantedT ops.toArray T o = some false) (hd : dstOK n o.dst = true)
      (k : LR X G M n ops ord Q (p + 1) (putT T o.dst (.tup [])) S) : LR X G M n ops ord Q p T S
  | when {ord : List Nat} {Q : (Nat → TV) → LS → Prop} {p : Nat} {T : Nat → TV} {S : LS} {o : Oper} {g : Bool} {r : TV} (ho : ops[getO ord p]? = some o) (hp : Nat.blt p ord.length = true) (h : ∀ S', S.leX (X p) S' → g = true → LVal G o T S' r) (hg : wantedT ops.toArray T o = some g) (hd : dstOK n o.dst = true)
      (k : LR X G M n ops ord Q (p + 1) (putT T o.dst (.when g r)) S) : LR X G M n ops ord Q p T S
  | act {ord : List Nat} {Q : (Nat → TV) → LS → Prop} {p : Nat} {T : Nat → TV} {S : LS} {o : Oper} {R : TV → LS → Prop} (ho : ops[getO ord p]? = some o) (hp : Nat.blt p ord.length = true) (ha : laterAll ops ord p = true) (h : LAct G M o T S R) (hg : wantedT ops.toArray T o = some true) (hd : dstOK n o.dst = true)
      (hm : ∀ r S', R r S' → ∀ q, q < p → S.leX (X q) S' ∨ anc ops ord q p = true) (k : ∀ r S', R r S' → LR X G M n ops ord Q (p + 1) (putT T o.dst r) S') : LR X G M n ops ord Q p T S
  | alt {ord : List Nat} {Q : (Nat → TV) → LS → Prop} {p : Nat} {T : Nat → TV} {S : LS} (ord2 : List Nat) {o1 o2 : Oper} {R1 R2 : TV → LS → Prop} (hp : Nat.blt p ord.length = true) (ha : altOK ops ord ord2 p = true) (e1 : ops[getO ord p]? = some o1) (e2 : ops[getO ord2 p]? = some o2)
      (h1 : LDo G o1 T S R1) (h2 : LDo G o2 T S R2) (g1 : wantedT ops.toArray T o1 = some true) (g2 : wantedT ops.toArray T o2 = some true) (d1 : dstOK n o1.dst = true) (d2 : dstOK n o2.dst = true) (m1 : ∀ r S', R1 r S' → ∀ q, q < p → S.leX (X q) S') (m2 : ∀ r S', R2 r S' → ∀ q, q < p → S.leX (X q) S')
      (k1 : ∀ r S', R1 r S' → LR X G M n ops ord Q (p + 1) (putT T o1.dst r) S') (k2 : ∀ r S', R2 r S' → LR X G M n ops ord2 Q (p + 1) (putT T o2.dst r) S') : LR X G M n ops ord Q p T S

def updR (r : Nat → TV) (j : Nat) (x : TV) : Nat → TV := fun i => if i = j then x else r i
theorem updR_same (r : Nat → TV) (j : Nat) (x : TV) : updR r j x j = x := by simp [updR]
theorem updR_ne (r : Nat → TV) {i j : Nat} (x : TV) (h : i ≠ j) : updR r j x i = r i := by simp [updR, h]

section
variable (X : Nat → Nat → Prop) (G : Ctx) (M : Option Nat) (n : Nat) (ops : List Oper) (ord : List Nat) (Q : (Nat → TV) → LS → Prop) (T0 : Nat → TV)

def Facts (r : Nat → TV) (p : Nat) (S : LS) (L : Nat → Bool) : Prop := ∀ q o, q < p → ops[getO ord q]? = some o → dstOK n o.dst = true ∧
  (L (getO ord q) = true ∨ (wantedT ops.toArray (pv ops ord T0 r (fun _ => true) q) o = some true ∧ ∀ S', S.leX (X q) S' → LVal G o (pv ops ord T0 r (fun _ => true) q) S' (r (getO ord q))) ∨
    (wantedT ops.toArray (pv ops ord T0 r (fun _ => true) q) o = some false ∧ r (getO ord q) = .tup []) ∨
    ∃ g x, wantedT ops.toArray (pv ops ord T0 r (fun _ => true) q) o = some g ∧ (∀ S', S.leX (X q) S' → g = true → LVal G o (pv ops ord T0 r (fun _ => true) q) S' x) ∧ r (getO ord q) = .when g x)

def Stop (p : Nat) (T : Nat → TV) (S : LS) : Prop := (p = ord.length ∧ Q T S) ∨
  (p < ord.length ∧ laterAll ops ord p = true ∧ ∃ o R, ops[getO ord p]? = some o ∧ LAct G M o T S R ∧ wantedT ops.toArray T o = some true ∧ dstOK n o.dst = true ∧
    (∀ r S', R r S' → ∀ q, q < p → S.leX (X q) S' ∨ anc ops ord q p = true) ∧ ∀ r S', R r S' → LR X G M n ops ord Q (p + 1) (putT T o.dst r) S') ∨
  (p < ord.length ∧ ∃ ord2, AltOK ops ord ord2 p ∧ ∃ o1 o2 R1 R2, ops[getO ord p]? = some o1 ∧ ops[getO ord2 p]? = some o2 ∧ LDo G o1 T S R1 ∧ LDo G o2 T S R2 ∧ wantedT ops.toArray T o1 = some true ∧ wantedT ops.toArray T o2 = some true ∧ dstOK n o1.dst = true ∧ dstOK n o2.dst = true ∧
    (∀ r S', R1 r S' → ∀ q, q < p → S.leX (X q) S') ∧ (∀ r S', R2 r S' → ∀ q, q < p → S.leX (X q) S') ∧ (∀ r S', R1 r S' → LR X G M n ops ord Q (p + 1) (putT T o1.dst r) S') ∧ ∀ r S', R2 r S' → LR X G M n ops ord2 Q (p + 1) (putT T o2.dst r) S')

variable {X G M n ops ord Q T0}

theorem Facts.congr (hok : OrdOK ops ord) {r r' : Nat → TV} {p : Nat} {S : LS} {L : Nat → Bool} (hp : p ≤ ord.length) (h : Facts X G n ops ord T0 r p S L) (hr : ∀ q, q < p → r' (getO ord q) = r (getO ord q)) : Facts X G n ops ord T0 r' p S L := fun q o hq ho => by
  obtain ⟨h1, h2⟩ := h q o hq ho
  rw [pv_congr q fun q' hq' _ => hr q' (by omega), hr q hq]
  exact ⟨h1, h2⟩

theorem LR.advance (hok : OrdOK ops ord) {L : Nat → Bool} {p : Nat} {T : Nat → TV} {S : LS} (h : LR X G M n ops ord Q p T S) : ∀ r, p ≤ ord.length → T = pv ops ord T0 r (fun _ => true) p → Facts X G n ops ord T0 r p S L →
    ∃ p' r', p ≤ p' ∧ p' ≤ ord.length ∧ (∀ q, q < p → r' (getO ord q) = r (getO ord q)) ∧ Facts X G n ops ord T0 r' p' S L ∧ Stop X G M n ops ord Q p' (pv ops ord T0 r' (fun _ => true) p') S := by
  have ext : ∀ {p : Nat} {r : Nat → TV} (x : TV), p < ord.length → ∀ q, q < p → updR r (getO ord p) x (getO ord q) = r (getO ord q) := fun {p r} x hp q hq => updR_ne _ _ fun e => by
    have := hok.inj q p (by omega) hp e; omega
  induction h with
  | @nil ord Q p T S hp hq =>
    intro r hle hT hf
    exact ⟨p, r, Nat.le_refl _, hle, fun _ _ => rfl, hf, .inl ⟨hp, hT ▸ hq⟩⟩
  | @act ord Q p T S o R ho hp ha h hg hd hm k _ =>
    intro r hle hT hf
    subst hT
    exact ⟨p, r, Nat.le_refl _, hle, fun _ _ => rfl, hf, .inr (.inl ⟨by simpa [Nat.blt_eq] using hp, ha, o, R, ho, h, hg, hd, hm, k⟩)⟩
  | @alt ord Q p T S ord2 o1 o2 R1 R2 hp ha e1 e2 h1 h2 g1 g2 d1 d2 m1 m2 k1 k2 _ _ =>
    intro r hle hT hf
    subst hT
    exact ⟨p, r, Nat.le_refl _, hle, fun _ _ => rfl, hf, .inr (.inr ⟨by simpa [Nat.blt_eq] using hp, ord2, .of ha, o1, o2, R1, R2, e1, e2, h1, h2, g1, g2, d1, d2, m1, m2, k1, k2⟩)⟩
  | @val ord Q p T S o x ho hp h hg hd k ih =>
    intro r hle hT hf
    have hp : p < ord.length := by simpa [Nat.blt_eq] using hp
    have hpv : pv ops ord T0 (updR r (getO ord p) x) (fun _ => true) p = T := by rw [hT]; exact pv_congr p fun q hq _ => ext x hp q hq
    obtain ⟨p', r', h1, h2, h3, h4, h5⟩ := ih hok @ext (updR r (getO ord p) x) hp (by simp only [pv, cond_true, ho, Option.bind_some, updR_same, hpv]) (fun q o' hq ho' => by
      rcases Nat.lt_or_ge q p with hlt | hge
      · exact (hf.congr hok (Nat.le_of_lt hp) (ext x hp)) q o' hlt ho'
      · obtain rfl : q = p := by omega
        rw [ho] at ho'
        obtain rfl : o = o' := by simpa using ho'
        refine ⟨hd, .inr (.inl ⟨by rw [hpv]; exact hg, ?_⟩)⟩
        rw [hpv, updR_same]; exact h)
    exact ⟨p', r', by omega, h2, fun q hq => (h3 q (by omega)).trans (ext x hp q hq), h4, h5⟩
  | @when ord Q p T S o g x ho hp h hg hd k ih =>
    intro r hle hT hf
    have hp : p < ord.length := by simpa [Nat.blt_eq] using hp
    have hpv : pv ops ord T0 (updR r (getO ord p) (.when g x)) (fun _ => true) p = T := by rw [hT]; exact pv_congr p fun q hq _ => ext (.when g x) hp q hq
    obtain ⟨p', r', h1, h2, h3, h4, h5⟩ := ih hok @ext (updR r (getO ord p) (.when g x)) hp (by simp only [pv, cond_true, ho, Option.bind_some, updR_same, hpv]) (fun q o' hq ho' => by
      rcases Nat.lt_or_ge q p with hlt | hge
      · exact (hf.congr hok (Nat.le_of_lt hp) (ext (.when g x) hp)) q o' hlt ho'
      · obtain rfl : q = p := by omega
        rw [ho] at ho'
        obtain rfl : o = o' := by simpa using ho'
        refine ⟨hd, .inr (.inr (.inr ⟨g, x, by rw [hpv]; exact hg, ?_, updR_same _ _ _⟩))⟩
        rw [hpv]; exact h)
    exact ⟨p', r', by omega, h2, fun q hq => (h3 q (by omega)).trans (ext (.when g x) hp q hq), h4, h5⟩
  | @skip ord Q p T S o ho hp hg hd k ih =>
    intro r hle hT hf
    have hp : p < ord.length := by simpa [Nat.blt_eq] using hp
    have hpv : pv ops ord T0 (updR r (getO ord p) (.tup [])) (fun _ => true) p = T := by rw [hT]; exact pv_congr p fun q hq _ => ext (.tup []) hp q hq
    obtain ⟨p', r', h1, h2, h3, h4, h5⟩ := ih hok @ext (updR r (getO ord p) (.tup [])) hp (by simp only [pv, cond_true, ho, Option.bind_some, updR_same, hpv]) (fun q o' hq ho' => by
      rcases Nat.lt_or_ge q p with hlt | hge
      · exact (hf.congr hok (Nat.le_of_lt hp) (ext (.tup []) hp)) q o' hlt ho'
      · obtain rfl : q = p := by omega
        rw [ho] at ho'
        obtain rfl : o = o' := by simpa using ho'
        exact ⟨hd, .inr (.inr (.inl ⟨by rw [hpv]; exact hg, updR_same _ _ _⟩))⟩)
    exact ⟨p', r', by omega, h2, fun q hq => (h3 q (by omega)).trans (ext (.tup []) hp q hq), h4, h5⟩

theorem pv_same {ops : List Oper} {ord ord2 : List Nat} {T0 : Nat → TV} {r : Nat → TV} {L : Nat → Bool} : ∀ m, (∀ q, q < m → getO ord2 q = getO ord q) → pv ops ord2 T0 r L m = pv ops ord T0 r L m := by
  intro m
  induction m with
  | zero => intro _; rfl
  | succ m ih =>
    intro h
    simp only [pv]
    rw [ih fun q hq => h q (by omega), h m (by omega)]
theorem pv_tail {ops : List Oper} {ord : List Nat} {T0 : Nat → TV} {r : Nat → TV} {L : Nat → Bool} {p : Nat} : ∀ m, p ≤ m → (∀ q, p ≤ q → q < m → L (getO ord q) = false) → pv ops ord T0 r L m = pv ops ord T0 r L p := by
  intro m
  induction m with
  | zero => intro hp _; rw [Nat.le_zero.1 hp]
  | succ m ih =>
    intro hp h
    rcases Nat.lt_or_ge m p with hlt | hge
    · rw [show p = m + 1 by omega]
    · simp only [pv, h m hge (by omega), cond_false]
      exact ih hge fun q h1 h2 => h q h1 (by omega)

theorem wpAnyR {m : Nat} :
    ∀ (fuel : Nat) (ord : List Nat) (hok : OrdOK ops ord) (listed : Array Bool) (L : Nat → Bool) (a : Act) (w : World) (K : Kept) (p : Nat) (r : Nat → TV) (S : LS), listed.size = ops.length → (∀ i, i < ops.length → listed.getD i false = L i) → Closed ops L → left ops.length L ≤ fuel →
      p ≤ ord.length → Facts X G n ops ord T0 r p S L → (∀ q, q < ord.length → L (getO ord q) = true → q < p) → Stop X G M n ops ord Q p (pv ops ord T0 r (fun _ => true) p) S →
      Inv G S K w → RelT G w K n (pv ops ord T0 r L ord.length) a → Marks m w a.defers →
      wpAnyIn (fen M) 0 G.P .any ops.toArray (fun e a' w' => e = .normal ∧ Post G m n K w Q a' w') fuel listed a w := by
  have hend : ∀ (ord : List Nat) (hok : OrdOK ops ord) (listed : Array Bool) (L : Nat → Bool) (a : Act) (w : World) (K : Kept) (p : Nat) (r : Nat → TV) (S : LS), (∀ i, i < ops.length → L i = true) → (∀ q, q < ord.length → L (getO ord q) = true → q < p) → p ≤ ord.length →
      Stop X G M n ops ord Q p (pv ops ord T0 r (fun _ => true) p) S → Inv G S K w → RelT G w K n (pv ops ord T0 r L ord.length) a → Marks m w a.defers → Post G m n K w Q a w := by
    intro ord hok listed L a w K p r S hall hdone hp hst hi hr hf
    have hget : ∀ q, q < ord.length → getO ord q < ops.length → L (getO ord q) = true := fun q _ h => hall _ h
    rcases hst with ⟨rfl, hq⟩ | ⟨hlt, _⟩ | ⟨hlt, _⟩
    · have : ∀ m, m ≤ ord.length → pv ops ord T0 r L m = pv ops ord T0 r (fun _ => true) m := by
        intro m
        induction m with
        | zero => intro _; rfl
        | succ m ih => intro hm; simp only [pv, hget m (by omega) (hok.inn m (by omega)), ih (by omega)]
      rw [this _ (Nat.le_refl _)] at hr
      exact ⟨_, S, K, hi, hr, hf, .refl _ _, hq⟩
    · have := hdone p hlt (hget p hlt (hok.inn p hlt))
      omega
    · have := hdone p hlt (hget p hlt (hok.inn p hlt))
      omega
  intro fuel
  induction fuel with
  | zero =>
    intro ord hok listed L a w K p r S hsz hL hc hle hp hfacts hdone hst hi hr hf
    have hall : ∀ i, i < ops.length → L i = true := by
      intro i hi'
      have h0 : left ops.length L = 0 := by omega
      unfold left at h0
      rw [List.countP_eq_zero] at h0
      have := h0 i (List.mem_range.2 hi')
      simpa using this
    refine ⟨?_, rfl, hend ord hok listed L a w K p r S hall hdone hp hst hi hr hf⟩
    cases hrd : Region.ready .any ops.toArray listed with
    | nil => rfl
    | cons x xs =>
      have hm : x ∈ Region.ready .any ops.toArray listed := by rw [hrd]; simp
      rw [mem_ready] at hm
      obtain ⟨h1, o, ho, _⟩ := hm
      have hx : x < ops.length := by simpa using (Array.getElem?_eq_some_iff.1 ho).1
      have h2 := hL x hx
      rw [hall x hx] at h2
      rw [Array.getD_eq_getD_getElem?] at h1 h2
      cases hq : listed[x]? with
      | none => rw [hq] at h2; simp at h2
      | some b => rw [hq] at h1 h2; simp at h1 h2; rw [h1] at h2; cases h2
  | succ fuel ih =>
    intro ord hok listed L a w K p r S hsz hL hc hle hp hfacts hdone hst hi hr hf
    have hgd : ∀ x, x < ops.length → listed.getD x true = L x := by
      intro x hx
      rw [← hL x hx, Array.getD_eq_getD_getElem?, Array.getD_eq_getD_getElem?, Array.getElem?_eq_getElem (by omega)]; rfl
    have hB : ∀ (ord : List Nat) (hok : OrdOK ops ord) (q : Nat) (r : Nat → TV) (y : Oper), q < ord.length → Facts X G n ops ord T0 r q S L → (∀ q', q' < ord.length → L (getO ord q') = true → q' < q) → RelT G w K n (pv ops ord T0 r L ord.length) a → ops.toArray[getO ord q]? = some y →
        L (getO ord q) = false → (∀ e ∈ y.after, Region.binds .any e = true → L e.on = true) → ∀ (R : TV → LS → Prop), LAct G M y (pv ops ord T0 r (fun _ => true) q) S R → wantedT ops.toArray (pv ops ord T0 r (fun _ => true) q) y = some true → dstOK n y.dst = true →
        (∀ r S', R r S' → ∀ q', q' < q → S.leX (X q') S' ∨ anc ops ord q' q = true) → (∀ r0 S', R r0 S' → LR X G M n ops ord Q (q + 1) (putT (pv ops ord T0 r (fun _ => true) q) y.dst r0) S') →
        wpOpIn (fen M) 0 G.P ops.toArray (fun e a' w' => e = .normal ∧ Post G m n K w Q a' w') (getO ord q) (wpAnyIn (fen M) 0 G.P .any ops.toArray (fun e a' w' => e = .normal ∧ Post G m n K w Q a' w') fuel (listed.setIfInBounds (getO ord q) true)) a w := by
        intro ord hok q r y hq hfacts hdone hr hy hLj hdep' R hdo hw hd hm hk
        have hy' : ops[getO ord q]? = some y := by simpa using hy
        have hjl : getO ord q < ops.length := (List.getElem?_eq_some_iff.1 hy').1
        have hbef : ∀ k, ((befores ops []).getD (getO ord q) 0).testBit k = true → L k = true := fun k hk => by
          obtain ⟨e, he, hb, h⟩ := before_dep' hok.edges hy' hk
          rcases h with rfl | h
          · exact hdep' e he hb
          · exact hc.out _ (hdep' e he hb) _ h
        have hseen : ∀ t ∈ looks ops y, pv ops ord T0 r L ord.length t = pv ops ord T0 r (fun _ => true) q t := fun t ht => by
          have := pv_seen hok hc (T0 := T0) (r := r) hq hy' hLj hdep' (.inl ht) ord.length (Nat.le_refl _)
          rw [Nat.min_eq_right (by omega)] at this
          exact this
        have hput : ∀ r, putT (pv ops ord T0 r L ord.length) y.dst (r (getO ord q)) = pv ops ord T0 r (withJ L (getO ord q)) ord.length := by
          intro r
          funext t
          rw [pv_put hok hc (T0 := T0) (r := r) hq hy' hLj t ord.length (Nat.le_refl _), if_pos hq]
        have hcl : Closed ops (withJ L (getO ord q)) := ⟨fun i hLi k hk => by
          have hsub : ∀ k, L k = true → withJ L (getO ord q) k = true := fun k h => by
            by_cases e : k = getO ord q
            · rw [e]; exact withJ_same _ _
            · rw [withJ_ne L e]; exact h
          by_cases e : i = getO ord q
          · rw [e] at hk
            exact hsub _ (hbef k hk)
          · rw [withJ_ne L e] at hLi
            exact hsub _ (hc.out i hLi k hk)⟩
        have hlst : ∀ i, i < ops.length → (listed.setIfInBounds (getO ord q) true).getD i false = withJ L (getO ord q) i := fun i hi' => by
          by_cases e : i = getO ord q
          · rw [e, withJ_same, Array.getD_eq_getD_getElem?]
            simp [hsz, hjl]
          · rw [withJ_ne L e, getD_set_ne false (Ne.symm e)]
            exact hL i hi'
        have hleft := left_with hjl hLj
        have hmonoL : ∀ k, L k = true → withJ L (getO ord q) k = true := fun k h => by
          by_cases e : k = getO ord q
          · rw [e]; exact withJ_same _ _
          · rw [withJ_ne L e]; exact h
        unfold wpOpIn
        rw [hy]
        simp only
        rw [← wantedT_congr hseen] at hw
        rw [if_pos (wanted_of hr hw)]
        have hdo' : LAct G M y (pv ops ord T0 r L ord.length) S R := fun K w a N Q hi hr hn => hdo K w a N Q hi (fun x hx => by rw [← lev_congr hseen x hx]; exact hr x hx) hn
        refine hdo' K w a _ _ hi (fun x _ => hr.eval x) fun r0 v S' K' w' h2 h3 h4 h5 => ?_
        have hne : ∀ q', q' < q → getO ord q' ≠ getO ord q := fun q' hq' e => by have := hok.inj q' q (by omega) hq e; omega
        have hpv : ∀ m, m ≤ q → pv ops ord T0 (updR r (getO ord q) r0) (fun _ => true) m = pv ops ord T0 r (fun _ => true) m := fun m hm => pv_congr m fun q' hq' _ => updR_ne _ _ (hne q' (by omega))
        have hf1 : Facts X G n ops ord T0 (updR r (getO ord q) r0) (q + 1) S' (withJ L (getO ord q)) := fun q' o' hq' ho' => by
          rcases Nat.lt_or_ge q' q with hlt | hge
          · obtain ⟨f1, f2⟩ := hfacts q' o' hlt ho'
            refine ⟨f1, ?_⟩
            rcases hm r0 S' h5 q' hlt with hle2 | hea
            · rw [hpv q' (by omega), updR_ne _ _ (hne q' hlt)]
              rcases f2 with f2 | ⟨f2, f3⟩ | f2 | ⟨g, x, f2, f3, f4⟩
              · exact .inl (hmonoL _ f2)
              · exact .inr (.inl ⟨f2, fun S2 h2 => f3 S2 (hle2.trans h2)⟩)
              · exact .inr (.inr (.inl f2))
              · exact .inr (.inr (.inr ⟨g, x, f2, fun S2 h2 => f3 S2 (hle2.trans h2), f4⟩))
            · refine .inl (hmonoL _ (hbef _ ?_))
              exact hea
          · obtain rfl : q' = q := by omega
            rw [hy'] at ho'
            obtain rfl : y = o' := by simpa using ho'
            exact ⟨hd, .inl (withJ_same _ _)⟩
        obtain ⟨p', r', g1, g2, g3, g4, g5⟩ := (hk r0 S' h5).advance hok (updR r (getO ord q) r0) hq (by simp only [pv, cond_true, hy', Option.bind_some, updR_same, hpv q (Nat.le_refl _)]) hf1
        have hdone' : ∀ q', q' < ord.length → withJ L (getO ord q) (getO ord q') = true → q' < p' := fun q' hq' h => by
          by_cases e : getO ord q' = getO ord q
          · rw [hok.inj q' q hq' hq e]; omega
          · rw [withJ_ne L e] at h; have := hdone q' hq' h; omega
        have hrr : pv ops ord T0 r' (withJ L (getO ord q)) ord.length = putT (pv ops ord T0 r L ord.length) y.dst r0 := by
          have e1 : pv ops ord T0 r' (withJ L (getO ord q)) ord.length = pv ops ord T0 (updR r (getO ord q) r0) (withJ L (getO ord q)) ord.length := pv_congr _ fun q' hq' hL' => by
            by_cases e : getO ord q' = getO ord q
            · rw [hok.inj q' q hq' hq e]; exact g3 q (by omega)
            · rw [withJ_ne L e] at hL'; exact g3 q' (by have := hdone q' hq' hL'; omega)
          rw [e1, ← hput, updR_same]
          congr 1
          exact pv_congr _ fun q' hq' hL' => updR_ne _ _ (hne q' (hdone q' hq' hL'))
        have := ih ord hok (listed.setIfInBounds (getO ord q) true) (withJ L (getO ord q)) (a.put y.dst v) w' K' p' r' S' (by simp [hsz]) hlst hcl (by omega) g2 g4 hdone' g5 h3 (by rw [hrr]; exact (hr.mono h4).put hd h2) (by rw [put_defers]; exact hf.mono h4)
        exact wpAnyIn_mono' (fun e a w ⟨he, hp⟩ => ⟨he, hp.trans h4⟩) _ _ _ _ this
    refine ⟨fun hnil => ⟨rfl, ?_⟩, fun j hj => ?_⟩
    · have hall : ∀ i, i < ops.length → L i = true := by
        intro i
        induction i using Nat.strongRecOn with
        | _ i ihi =>
          intro hi'
          cases hLi : L i with
          | true => rfl
          | false =>
            have : i ∈ Region.ready .any ops.toArray listed := by
              rw [mem_ready]
              refine ⟨by rw [hgd i hi', hLi], ops[i], by simp [hi'], fun e he hb => ?_⟩
              have hlt := edges_on hok.edges (List.getElem?_eq_getElem hi') e he hb
              rw [hL e.on (by omega)]
              exact ihi e.on hlt (by omega)
            rw [hnil] at this; simp at this
      exact hend ord hok listed L a w K p r S hall hdone hp hst hi hr hf
    · rw [mem_ready] at hj
      obtain ⟨h1, y, hy, hdep⟩ := hj
      have hy' : ops[j]? = some y := by simpa using hy
      have hjl : j < ops.length := (List.getElem?_eq_some_iff.1 hy').1
      have hLj : L j = false := by rw [← hgd j hjl]; exact h1
      have hdep' : ∀ e ∈ y.after, Region.binds .any e = true → L e.on = true := fun e he hb => by
        have := hdep e he hb
        rw [hL e.on (by have := edges_on hok.edges hy' e he hb; omega)] at this
        exact this
      have hbef : ∀ k, ((befores ops []).getD j 0).testBit k = true → L k = true := fun k hk => by
        obtain ⟨e, he, hb, h⟩ := before_dep' hok.edges hy' hk
        rcases h with rfl | h
        · exact hdep' e he hb
        · exact hc.out _ (hdep' e he hb) _ h
      obtain ⟨q, hq, rfl⟩ := hok.all j hjl
      have hseen : ∀ t ∈ looks ops y, pv ops ord T0 r L ord.length t = pv ops ord T0 r (fun _ => true) q t := fun t ht => by
        have := pv_seen hok hc (T0 := T0) (r := r) hq hy' hLj hdep' (.inl ht) ord.length (Nat.le_refl _)
        rw [Nat.min_eq_right (by omega)] at this
        exact this
      have hput : ∀ r, putT (pv ops ord T0 r L ord.length) y.dst (r (getO ord q)) = pv ops ord T0 r (withJ L (getO ord q)) ord.length := by
        intro r
        funext t
        rw [pv_put hok hc (T0 := T0) (r := r) hq hy' hLj t ord.length (Nat.le_refl _), if_pos hq]
      have hcl : Closed ops (withJ L (getO ord q)) := ⟨fun i hLi k hk => by
        have hsub : ∀ k, L k = true → withJ L (getO ord q) k = true := fun k h => by
          by_cases e : k = getO ord q
          · rw [e]; exact withJ_same _ _
          · rw [withJ_ne L e]; exact h
        by_cases e : i = getO ord q
        · rw [e] at hk
          exact hsub _ (hbef k hk)
        · rw [withJ_ne L e] at hLi
          exact hsub _ (hc.out i hLi k hk)⟩
      have hlst : ∀ i, i < ops.length → (listed.setIfInBounds (getO ord q) true).getD i false = withJ L (getO ord q) i := fun i hi' => by
        by_cases e : i = getO ord q
        · rw [e, withJ_same, Array.getD_eq_getD_getElem?]
          simp [hsz, hjl]
        · rw [withJ_ne L e, getD_set_ne false (Ne.symm e)]
          exact hL i hi'
      have hleft := left_with hjl hLj
      have hmonoL : ∀ k, L k = true → withJ L (getO ord q) k = true := fun k h => by
        by_cases e : k = getO ord q
        · rw [e]; exact withJ_same _ _
        · rw [withJ_ne L e]; exact h
      rcases Nat.lt_trichotomy q p with hlt | rfl | hgt
      · -- an operation that only reads
        obtain ⟨hd, hcase⟩ := hfacts q y hlt hy'
        have hfacts' : Facts X G n ops ord T0 r p S (withJ L (getO ord q)) := fun q' o' hq' ho' => by
          obtain ⟨f1, f2⟩ := hfacts q' o' hq' ho'
          exact ⟨f1, f2.imp (hmonoL _) id⟩
        have hdone' : ∀ q', q' < ord.length → withJ L (getO ord q) (getO ord q') = true → q' < p := fun q' hq' h => by
          by_cases e : getO ord q' = getO ord q
          · rw [hok.inj q' q hq' hq e]; exact hlt
          · rw [withJ_ne L e] at h; exact hdone q' hq' h
        unfold wpOpIn
        rw [hy]
        simp only
        rcases hcase with hdn | ⟨hw, hv⟩ | ⟨hw, hany⟩ | ⟨g, x, hw, hv, hrx⟩
        · rw [hLj] at hdn; cases hdn
        · rw [← wantedT_congr hseen] at hw
          rw [if_pos (wanted_of hr hw)]
          have hv' := (hv S (.refl S)).congr (fun x hx => (lev_congr hseen x hx).symm)
          refine wpIn_of_wp (hv' K w a hi fun x _ => hr.eval x) fun a' w' hp' => ?_
          obtain ⟨v, K', rfl, h2, h3, h4⟩ := hp'
          refine ⟨put_defers _ _ _, ?_⟩
          have := ih ord hok (listed.setIfInBounds (getO ord q) true) (withJ L (getO ord q)) (a.put y.dst v) w' K' p r S (by simp [hsz]) hlst hcl (by omega) hp hfacts' hdone' hst h3 (by rw [← hput]; exact (hr.mono h4).put hd h2) (by rw [put_defers]; exact hf.mono h4)
          exact wpAnyIn_mono' (fun e a w ⟨he, hp⟩ => ⟨he, hp.trans h4⟩) _ _ _ _ this
        · rw [← wantedT_congr hseen] at hw
          rw [if_neg (by rw [wanted_of hr hw]; simp)]
          refine ⟨fun f _ => fen_fn M f, ?_⟩
          exact ih ord hok (listed.setIfInBounds (getO ord q) true) (withJ L (getO ord q)) (a.put y.dst undef) w K p r S (by simp [hsz]) hlst hcl (by omega) hp hfacts' hdone' hst hi (by rw [← hput]; exact hr.put hd (by rw [hany]; exact .tup [] #[] rfl (by simp))) (by rw [put_defers]; exact hf)
        · rw [← wantedT_congr hseen] at hw
          cases g with
          | true =>
            rw [if_pos (wanted_of hr hw)]
            have hv' := (hv S (.refl S) rfl).congr (fun x hx => (lev_congr hseen x hx).symm)
            refine wpIn_of_wp (hv' K w a hi fun x _ => hr.eval x) fun a' w' hp' => ?_
            obtain ⟨v, K', rfl, h2, h3, h4⟩ := hp'
            refine ⟨put_defers _ _ _, ?_⟩
            have h2' : RepT G w' K' (r (getO ord q)) v := by rw [hrx]; exact .when true x v (fun _ => h2) (by simp)
            have := ih ord hok (listed.setIfInBounds (getO ord q) true) (withJ L (getO ord q)) (a.put y.dst v) w' K' p r S (by simp [hsz]) hlst hcl (by omega) hp hfacts' hdone' hst h3 (by rw [← hput]; exact (hr.mono h4).put hd h2') (by rw [put_defers]; exact hf.mono h4)
            exact wpAnyIn_mono' (fun e a w ⟨he, hp⟩ => ⟨he, hp.trans h4⟩) _ _ _ _ this
          | false =>
            rw [if_neg (by rw [wanted_of hr hw]; simp)]
            refine ⟨fun f _ => fen_fn M f, ?_⟩
            exact ih ord hok (listed.setIfInBounds (getO ord q) true) (withJ L (getO ord q)) (a.put y.dst undef) w K p r S (by simp [hsz]) hlst hcl (by omega) hp hfacts' hdone' hst hi (by rw [← hput]; exact hr.put hd (by rw [hrx]; exact .when false x _ (by simp) (fun _ => rfl))) (by rw [put_defers]; exact hf)
      · -- the next operation that turns the memory
        rcases hst with ⟨e, _⟩ | ⟨_, _, o, R, ho, hdo, hw, hd, hm, hk⟩ | ⟨_, ord2, ha, o, _, R, _, ho, _, hdo, _, hw, _, hd, _, hm, _, hk, _⟩
        · omega
        · rw [hy'] at ho
          obtain rfl : y = o := by simpa using ho
          exact hB ord hok q r y hq hfacts hdone hr hy hLj hdep' R hdo hw hd hm hk
        · rw [hy'] at ho
          obtain rfl : y = o := by simpa using ho
          exact hB ord hok q r y hq hfacts hdone hr hy hLj hdep' R hdo.toAct hw hd (fun r S' h q hq => .inl (hm r S' h q hq)) hk
      · -- what hangs on it cannot be ahead of it
        rcases hst with ⟨e, _⟩ | ⟨hlt, hla, _⟩ | ⟨hlt, ord2, ha, o1, o2, R1, R2, e1, e2, h1', h2', g1, g2, d1, d2, m1, m2, k1, k2⟩
        · omega
        · simp only [laterAll, List.all_eq_true] at hla
          have h2 := hla q (List.mem_range.2 hq)
          rw [Bool.or_eq_true] at h2
          rcases h2 with h2 | h2
          · have hb : Nat.blt p q = true := by rw [Nat.blt_eq]; exact hgt
            rw [hb] at h2; cases h2
          · have := hdone p hlt (hbef _ h2); omega
        · have hpf : L (getO ord p) = false := by
            cases h : L (getO ord p) with
            | false => rfl
            | true => have := hdone p hlt h; omega
          have hp1f : L (getO ord (p + 1)) = false := by
            cases h : L (getO ord (p + 1)) with
            | false => rfl
            | true => have := hdone (p + 1) ha.hp h; omega
          rcases Nat.lt_or_ge (p + 1) q with h2 | h2
          · rcases ha.cov q h2 hq with h3 | h3
            · have := hbef _ h3; rw [hpf] at this; cases this
            · have := hbef _ h3; rw [ha.s1, hp1f] at this; cases this
          · obtain rfl : q = p + 1 := by omega
            have hlen : ord2.length = ord.length := by rw [ha.hok.len, hok.len]
            have hsame : ∀ q, q < p → getO ord2 q = getO ord q := fun q hq => ha.same q (by omega) (by omega) (by omega)
            have hlf : ∀ q, p ≤ q → q < ord.length → L (getO ord q) = false := fun q h1 h2 => by
              cases h : L (getO ord q) with
              | false => rfl
              | true => have := hdone q h2 h; omega
            have hlf2 : ∀ q, p ≤ q → q < ord2.length → L (getO ord2 q) = false := fun q h1 h2 => by
              rcases (by omega : q = p ∨ q = p + 1 ∨ (q ≠ p ∧ q ≠ p + 1)) with rfl | rfl | ⟨n1, n2⟩
              · rw [ha.s1]; exact hp1f
              · rw [ha.s2]; exact hpf
              · rw [ha.same q (by omega) n1 n2]; exact hlf q h1 (by omega)
            rw [← ha.s1]
            rw [← ha.s1] at hy hLj
            have hy2 : ops[getO ord2 p]? = some y := by simpa using hy
            rw [hy2] at e2
            obtain rfl : y = o2 := by simpa using e2
            have hpv2 : ∀ m, m ≤ p → pv ops ord2 T0 r (fun _ => true) m = pv ops ord T0 r (fun _ => true) m := fun m hm => pv_same m fun q hq => hsame q (by omega)
            refine hB ord2 ha.hok p r y (by omega) (fun q' o' hq' ho' => ?_) (fun q' hq' hL' => ?_) ?_ hy hLj hdep' R2 ?_ ?_ d2 (fun r S' h q hq => .inl (m2 r S' h q hq)) ?_
            · rw [hsame q' hq'] at ho' ⊢
              rw [hpv2 q' (by omega)]
              exact hfacts q' o' hq' ho'
            · rcases Nat.lt_or_ge q' p with h | h
              · exact h
              · rw [hlf2 q' h hq'] at hL'; cases hL'
            · rw [pv_tail _ (by omega) hlf2, pv_same p hsame, ← pv_tail ord.length (by omega) hlf]
              exact hr
            · rw [hpv2 p (Nat.le_refl _)]; exact h2'.toAct
            · rw [hpv2 p (Nat.le_refl _)]; exact g2
            · rw [hpv2 p (Nat.le_refl _)]; exact k2

end

/-- A region whose order is drawn, in an order of our own. -/
theorem LWp.drawR {X : Nat → Nat → Prop} {G : Ctx} {M : Option Nat} {n : Nat} {id : Nat} {Q : Exit → (Nat → TV) → LS → Prop} {T : Nat → TV} {S : LS} {ops : List Oper} (ord : List Nat) (hm : G.P.follows .mixedOrders = true) (hok : ordOK ops ord = true)
    (h : LR X G M n ops ord (Q .normal) 0 T S) : LWp G M n (.region id ops.toArray true) Q T S := by
  intro m K w a hi hr hf
  have hok := OrdOK.of hok
  refine wpIn_region_any hm ?_
  obtain ⟨p', r', g1, g2, g3, g4, g5⟩ := h.advance (T0 := T) (L := fun _ => false) hok (fun _ => .any) (Nat.zero_le _) rfl (fun q o hq _ => by omega)
  have hnone : ∀ m, pv ops ord T r' (fun _ => false) m = T := fun m => by
    induction m with
    | zero => rfl
    | succ m ih => simpa [pv] using ih
  have := wpAnyR (G := G) (M := M) (m := m) (n := n) (ops := ops) (T0 := T) ops.length ord hok (Array.replicate ops.length false) (fun _ => false) a w.drew K p' r' S (by simp) (fun i hi' => by simp [Array.getD_eq_getD_getElem?, hi']) ⟨fun i h => by cases h⟩
      (by unfold left; exact Nat.le_trans List.countP_le_length (by simp)) g2 g4 (fun q _ h => by cases h) g5 hi.drew (by rw [hnone]; exact hr.mono (.drew K w)) (hf.mono (.drew K w))
  have h2 := wpAnyIn_mono' (Q' := fun e a' w' => Post G m n K w (Q e) a' w') (fun e a' w' ⟨he, hp⟩ => by
    subst he
    exact hp.trans (.drew K w)) _ _ _ _ this
  simpa using h2

/-- The operations in an order. -/
def pick (ops : List Oper) : List Nat → List Oper
  | [] => []
  | i :: is => match ops[i]? with
    | some o => o :: pick ops is
    | none => []

/-- The strategy, over the list of the operations that are left. -/
inductive LRl (X : Nat → Nat → Prop) (G : Ctx) (M : Option Nat) (n : Nat) (ops : List Oper) : List Nat → ((Nat → TV) → LS → Prop) → List Oper → Nat → (Nat → TV) → LS → Prop
  | nil {ord : List Nat} {Q : (Nat → TV) → LS → Prop} {p : Nat} {T : Nat → TV} {S : LS} (hq : Q T S) : LRl X G M n ops ord Q [] p T S
  | val {ord : List Nat} {Q : (Nat → TV) → LS → Prop} {l : List Oper} {p : Nat} {T : Nat → TV} {S : LS} {o : Oper} {r : TV} {d : Nat} (h : ∀ S', S.leX (X p) S' → LVal G o T S' r) (hg : wantedT ops.toArray T o = some true) (hd : o.dst = some d) (hn : Nat.blt d n = true)
      (k : LRl X G M n ops ord Q l (p + 1) (upd T d r) S) : LRl X G M n ops ord Q (o :: l) p T S
  | skip {ord : List Nat} {Q : (Nat → TV) → LS → Prop} {l : List Oper} {p : Nat} {T : Nat → TV} {S : LS} {o : Oper} {d : Nat} (hg : wantedT ops.toArray T o = some false) (hd : o.dst = some d) (hn : Nat.blt d n = true)
      (k : LRl X G M n ops ord Q l (p + 1) (upd T d (.tup [])) S) : LRl X G M n ops ord Q (o :: l) p T S
  | when {ord : List Nat} {Q : (Nat → TV) → LS → Prop} {l : List Oper} {p : Nat} {T : Nat → TV} {S : LS} {o : Oper} {g : Bool} {r : TV} {d : Nat} (hg : wantedT ops.toArray T o = some g) (h : ∀ S', S.leX (X p) S' → g = true → LVal G o T S' r) (hd : o.dst = some d) (hn : Nat.blt d n = true)
      (k : LRl X G M n ops ord Q l (p + 1) (upd T d (.when g r)) S) : LRl X G M n ops ord Q (o :: l) p T S
  | actA {ord : List Nat} {Q : (Nat → TV) → LS → Prop} {l : List Oper} {p : Nat} {T : Nat → TV} {S : LS} {o : Oper} {R : TV → LS → Prop} {d : Nat} (h : LAct G M o T S R) (ha : laterAll ops ord p = true) (hg : wantedT ops.toArray T o = some true) (hd : o.dst = some d) (hn : Nat.blt d n = true)
      (hm : ∀ r S', R r S' → ∀ q, q < p → S.leX (X q) S' ∨ anc ops ord q p = true) (k : ∀ r S', R r S' → LRl X G M n ops ord Q l (p + 1) (upd T d r) S') : LRl X G M n ops ord Q (o :: l) p T S
  | actA0 {ord : List Nat} {Q : (Nat → TV) → LS → Prop} {l : List Oper} {p : Nat} {T : Nat → TV} {S : LS} {o : Oper} {R : TV → LS → Prop} (h : LAct G M o T S R) (ha : laterAll ops ord p = true) (hg : wantedT ops.toArray T o = some true) (hd : o.dst = none)
      (hm : ∀ r S', R r S' → ∀ q, q < p → S.leX (X q) S' ∨ anc ops ord q p = true) (k : ∀ r S', R r S' → LRl X G M n ops ord Q l (p + 1) T S') : LRl X G M n ops ord Q (o :: l) p T S
  | alt {ord : List Nat} {Q : (Nat → TV) → LS → Prop} {l : List Oper} {p : Nat} {T : Nat → TV} {S : LS} (ord2 : List Nat) {o1 o2 : Oper} {R1 R2 : TV → LS → Prop} {d1 d2 : Nat} (ha : altOK ops ord ord2 p = true) (h1 : LDo G o1 T S R1) (h2 : LDo G o2 T S R2) (g1 : wantedT ops.toArray T o1 = some true) (g2 : wantedT ops.toArray T o2 = some true)
      (e1 : o1.dst = some d1) (e2 : o2.dst = some d2) (n1 : Nat.blt d1 n = true) (n2 : Nat.blt d2 n = true) (m1 : ∀ r S', R1 r S' → ∀ q, q < p → S.leX (X q) S') (m2 : ∀ r S', R2 r S' → ∀ q, q < p → S.leX (X q) S') (k1 : ∀ r S', R1 r S' → LRl X G M n ops ord Q (o2 :: l) (p + 1) (upd T d1 r) S')
      (k2 : ∀ r S', R2 r S' → LRl X G M n ops ord2 Q (o1 :: l) (p + 1) (upd T d2 r) S') : LRl X G M n ops ord Q (o1 :: o2 :: l) p T S

theorem hmOld {X : Nat → Nat → Prop} {ops : List Oper} {ord : List Nat} {p : Nat} {S S' : LS} (hx : ∀ q, X q = X p) (h : S.leX (X p) S' ∨ earlierAll ops ord p = true) : ∀ q, q < p → S.leX (X q) S' ∨ anc ops ord q p = true := fun q hq => by
  rcases h with h | h
  · left; rw [hx q]; exact h
  · right
    simp only [earlierAll, List.all_eq_true] at h
    exact h q (List.mem_range.2 hq)

theorem LRl.act {X : Nat → Nat → Prop} {G : Ctx} {M : Option Nat} {n : Nat} {ops : List Oper} {ord : List Nat} {Q : (Nat → TV) → LS → Prop} {l : List Oper} {p : Nat} {T : Nat → TV} {S : LS} {o : Oper} {R : TV → LS → Prop} {d : Nat} (h : LDo G o T S R) (ha : laterAll ops ord p = true) (hg : wantedT ops.toArray T o = some true) (hd : o.dst = some d) (hn : Nat.blt d n = true)
      (hm : ∀ r S', R r S' → S.leX (X p) S' ∨ earlierAll ops ord p = true) (k : ∀ r S', R r S' → LRl X G M n ops ord Q l (p + 1) (upd T d r) S') (hx : ∀ q, X q = X p := by intro _; rfl) : LRl X G M n ops ord Q (o :: l) p T S := .actA h.toAct ha hg hd hn (fun r S' h => hmOld hx (hm r S' h)) k
theorem LRl.act0 {X : Nat → Nat → Prop} {G : Ctx} {M : Option Nat} {n : Nat} {ops : List Oper} {ord : List Nat} {Q : (Nat → TV) → LS → Prop} {l : List Oper} {p : Nat} {T : Nat → TV} {S : LS} {o : Oper} {R : TV → LS → Prop} (h : LDo G o T S R) (ha : laterAll ops ord p = true) (hg : wantedT ops.toArray T o = some true) (hd : o.dst = none)
      (hm : ∀ r S', R r S' → S.leX (X p) S' ∨ earlierAll ops ord p = true) (k : ∀ r S', R r S' → LRl X G M n ops ord Q l (p + 1) T S') (hx : ∀ q, X q = X p := by intro _; rfl) : LRl X G M n ops ord Q (o :: l) p T S := .actA0 h.toAct ha hg hd (fun r S' h => hmOld hx (hm r S' h)) k

theorem pick_get {ops : List Oper} : ∀ {ord : List Nat} {k : Nat} {o : Oper}, (pick ops ord)[k]? = some o → ops[getO ord k]? = some o := by
  intro ord
  induction ord with
  | nil => intro k o h; simp [pick] at h
  | cons i is ih =>
    intro k o h
    unfold pick at h
    cases hi : ops[i]? with
    | none => rw [hi] at h; simp at h
    | some x =>
      rw [hi] at h
      cases k with
      | zero => simpa [getO, hi] using h
      | succ k => exact ih (k := k) (by simpa using h)

theorem pick_length {ops : List Oper} : ∀ {ord : List Nat}, (∀ i ∈ ord, i < ops.length) → (pick ops ord).length = ord.length := by
  intro ord
  induction ord with
  | nil => intro _; rfl
  | cons i is ih =>
    intro h
    unfold pick
    rw [List.getElem?_eq_getElem (h i (by simp))]
    simp [ih fun j hj => h j (List.mem_cons_of_mem _ hj)]

theorem LRl.toLR {X : Nat → Nat → Prop} {G : Ctx} {M : Option Nat} {n : Nat} {ops : List Oper} {ord : List Nat} {Q : (Nat → TV) → LS → Prop} {l : List Oper} {p : Nat} {T : Nat → TV} {S : LS} (h : LRl X G M n ops ord Q l p T S) :
    (∀ k o, l[k]? = some o → ops[getO ord (p + k)]? = some o) → p + l.length = ord.length → LR X G M n ops ord Q p T S := by
  have nx : ∀ {ord : List Nat} {l : List Oper} {p : Nat} {o : Oper}, (∀ k o', (o :: l)[k]? = some o' → ops[getO ord (p + k)]? = some o') → ∀ k o', l[k]? = some o' → ops[getO ord (p + 1 + k)]? = some o' := fun {ord l p o} h k o' hk => by
    have := h (k + 1) o' (by simpa using hk)
    rwa [show p + (k + 1) = p + 1 + k by omega] at this
  induction h with
  | nil hq => intro _ h2; exact .nil (by simpa using h2) hq
  | val h hg hd hn k ih =>
    intro h1 h2
    refine .val (h1 0 _ rfl) (by rw [Nat.blt_eq]; simp at h2; omega) h hg (by rw [hd]; exact hn) ?_
    rw [hd]
    exact ih (nx h1) (by simp at h2; omega)
  | skip hg hd hn k ih =>
    intro h1 h2
    refine .skip (h1 0 _ rfl) (by rw [Nat.blt_eq]; simp at h2; omega) hg (by rw [hd]; exact hn) ?_
    rw [hd]
    exact ih (nx h1) (by simp at h2; omega)
  | when hg h hd hn k ih =>
    intro h1 h2
    refine .when (h1 0 _ rfl) (by rw [Nat.blt_eq]; simp at h2; omega) h hg (by rw [hd]; exact hn) ?_
    rw [hd]
    exact ih (nx h1) (by simp at h2; omega)
  | actA h ha hg hd hn hm k ih =>
    intro h1 h2
    refine .act (h1 0 _ rfl) (by rw [Nat.blt_eq]; simp at h2; omega) ha h hg (by rw [hd]; exact hn) hm fun r S' hr => ?_
    rw [hd]
    exact ih r S' hr (nx h1) (by simp at h2; omega)
  | actA0 h ha hg hd hm k ih =>
    intro h1 h2
    refine .act (h1 0 _ rfl) (by rw [Nat.blt_eq]; simp at h2; omega) ha h hg (by rw [hd]; rfl) hm fun r S' hr => ?_
    rw [hd]
    exact ih r S' hr (nx h1) (by simp at h2; omega)
  | @alt ord Q l p T S ord2 o1 o2 R1 R2 d1 d2 ha h1 h2 g1 g2 e1 e2 n1 n2 m1 m2 k1 k2 ih1 ih2 =>
    intro hh hl
    have hA := AltOK.of ha
    have x1 := hh 0 _ rfl
    have x2 := hh 1 _ rfl
    rw [Nat.add_zero] at x1
    refine .alt ord2 (by rw [Nat.blt_eq]; simp at hl; omega) ha x1 (by rw [hA.s1]; exact x2) h1 h2 g1 g2 (by rw [e1]; exact n1) (by rw [e2]; exact n2) m1 m2 (fun r S' hr => ?_) (fun r S' hr => ?_)
    · rw [e1]
      exact ih1 r S' hr (nx hh) (by simp at hl ⊢; omega)
    · rw [e2]
      refine ih2 r S' hr (fun k o hk => ?_) (by rw [hA.len]; simp at hl ⊢; omega)
      cases k with
      | zero =>
        obtain rfl : o1 = o := by simpa using hk
        rw [Nat.add_zero, hA.s2]; exact x1
      | succ k =>
        have := hh (k + 2) o (by simpa using hk)
        have hlt : k < l.length := by
          have hk2 : l[k]? = some o := by simpa using hk
          exact (List.getElem?_eq_some_iff.1 hk2).1
        rw [hA.same _ (by simp at hl; omega) (by omega) (by omega), show p + 1 + (k + 1) = p + (k + 2) by omega]
        exact this

/-- What may change where an operation stands at a place of the order. -/
theorem LWp.drawF (X : Nat → Nat → Prop) {G : Ctx} {M : Option Nat} {n : Nat} {id : Nat} {Q : Exit → (Nat → TV) → LS → Prop} {T : Nat → TV} {S : LS} {ops : List Oper} (ord : List Nat) (hm : G.P.follows .mixedOrders = true) (hok : ordOK ops ord = true)
    (h : LRl X G M n ops ord (Q .normal) (pick ops ord) 0 T S) : LWp G M n (.region id ops.toArray true) Q T S := by
  have ho := OrdOK.of hok
  refine .drawR ord hm hok (h.toLR (fun k o hk => by rw [Nat.zero_add]; exact pick_get hk) ?_)
  rw [Nat.zero_add]
  refine pick_length fun i hi => ?_
  obtain ⟨q, hq, rfl⟩ := List.mem_iff_getElem.1 hi
  have := ho.inn q hq
  simpa [getO, List.getD_eq_getElem?_getD, hq] using this

theorem LWp.drawX (X : Nat → Prop) {G : Ctx} {M : Option Nat} {n : Nat} {id : Nat} {Q : Exit → (Nat → TV) → LS → Prop} {T : Nat → TV} {S : LS} {ops : List Oper} (ord : List Nat) (hm : G.P.follows .mixedOrders = true) (hok : ordOK ops ord = true)
    (h : LRl (fun _ => X) G M n ops ord (Q .normal) (pick ops ord) 0 T S) : LWp G M n (.region id ops.toArray true) Q T S := .drawF _ ord hm hok h

theorem LWp.drawL {G : Ctx} {M : Option Nat} {n : Nat} {id : Nat} {Q : Exit → (Nat → TV) → LS → Prop} {T : Nat → TV} {S : LS} {ops : List Oper} (ord : List Nat) (hm : G.P.follows .mixedOrders = true) (hok : ordOK ops ord = true)
    (h : LRl (fun _ _ => False) G M n ops ord (Q .normal) (pick ops ord) 0 T S) : LWp G M n (.region id ops.toArray true) Q T S := .drawX _ ord hm hok h

end Go.Proofs.Ytgkjhlmfgaaddaa.LF
end

section
/- The frame's operations once more, in the form in which walks ask for them. -/
namespace Go.Proofs.Ytgkjhlmfgaaddaa.LF
open Go.RowKit

/-- An empty slice literal of the call's own. -/
theorem LDo.emptySlice {G : Ctx} {D : Tab} (hD : TabOK G.P D) {o : Oper} {T : Nat → TV} {S : LS} {t e : TypeId} {i j : TI} (ho : o.op = .buildSlice t 0 #[])
    (hi : D.get t = some i) (hd : i.desc = .slice e) (hj : D.get e = some j) (hsz : Nat.blt 0 j.size = true) (hzs : j.zero.cells.size = j.size) (hz : j.zero.cells.toList.all Value.oneCell' = true) :
    LDo G o T S (fun r S' => ∃ b, S.fresh b ∧ r = .one (.sl (.own b) []) ∧ S' = S.newRow b e 0) :=
  LDo.buildSlice hD (ps := []) (lp := []) (l := sliceZero j 0) ho rfl hi hd hj hsz hzs hz (by rw [Nat.zero_mul]; rfl) rfl

/-- A slice literal of one element, the call's own. -/
theorem LDo.oneSlice {G : Ctx} {D : Tab} (hD : TabOK G.P D) {o : Oper} {T : Nat → TV} {S : LS} {t e : TypeId} {x : Operand} {c : List LV} {i j : TI} (ho : o.op = .buildSlice t 1 #[(0, x)])
    (hx : tcells (lev T x) = some c) (hi : D.get t = some i) (hd : i.desc = .slice e) (hj : D.get e = some j) (hc : Nat.beq c.length j.size = true) (hsz : Nat.blt 0 j.size = true) (hzs : j.zero.cells.size = j.size) (hz : j.zero.cells.toList.all Value.oneCell' = true) (hbig : Nat.ble j.size 16777216 = true) :
    LDo G o T S (fun r S' => ∃ b, S.fresh b ∧ r = .one (.sl (.own b) [c]) ∧ S' = S.newRow b e 1) := by
  have hcl : c.length = j.size := Nat.eq_of_beq_eq_true hc
  have hzl : (sliceZero j 1).length = j.size := by simp [sliceZero]
  have h := LDo.buildSlice (T := T) (S := S) hD (ps := [(0, x)]) ho (lp := [(0, c)]) (by simp only [lparts, hx]) hi hd hj hsz hzs hz (by rw [Nat.one_mul]; exact hbig) (l := splice (sliceZero j 1) 0 c) (by
    simp only [lfill, Nat.zero_mul, Nat.zero_add]
    have h1 : Nat.ble c.length (sliceZero j 1).length = true := by rw [hzl, hcl]; exact Nat.ble_eq_true_of_le (Nat.le_refl _)
    rw [hc, h1]; rfl)
  have e1 : splice (sliceZero j 1) 0 c = c := by
    unfold splice
    rw [List.drop_eq_nil_of_le (by omega)]; simp
  rw [e1] at h
  have e2 : chunks j.size c 1 = [c] := by
    simp only [chunks]
    rw [List.take_of_length_le (by omega)]
  rw [e2] at h
  exact h

/-- append, by lengths. -/
theorem LDo.appendN {G : Ctx} {D : Tab} (hD : TabOK G.P D) {o : Oper} {T : Nat → TV} {S : LS} {t e : TypeId} {s x : Operand} {o1 o2 : Own} {es news : List (List LV)} {i j : TI}
    (ho : o.op = .call { callee := .builtin .append, args := #[s, x], argTypes := #[t, t] }) (hs : lev T s = .one (.sl o1 es)) (hx : lev T x = .one (.sl o2 news)) (hi : D.get t = some i) (hd : i.desc = .slice e) (hj : D.get e = some j)
    (hsz : Nat.blt 0 j.size = true) (hzs : j.zero.cells.size = j.size) (hby : Nat.ble j.bytes 1024 = true) {n m : Nat} (hn : es.length = n) (hm : news.length = m) (hown : Owned S e n o1) (hnz : ∀ c ∈ news, c.length = j.size) (hl : n + m ≤ 100000000) :
    LDo G o T S (fun r S' => ∃ o', r = .one (.sl o' (es ++ news)) ∧ Owned S' e (n + m) o' ∧ S.upto o1 S' ∧ ∀ b, o' = .own b → o1 = .own b ∨ S.fresh b) := by
  subst hn; subst hm
  have h1 : (es.length + news.length) * j.bytes ≤ 100000000 * 1024 := Nat.mul_le_mul hl (Nat.le_of_ble_eq_true hby)
  exact LDo.append hD ho hs hx hi hd hj hsz hzs hown hnz (by unfold maxLen; omega) (by omega)

/-- append of one element, by lengths. -/
theorem LDo.push {G : Ctx} {D : Tab} (hD : TabOK G.P D) {o : Oper} {T : Nat → TV} {S : LS} {t e : TypeId} {s x : Operand} {o1 o2 : Own} {es : List (List LV)} {c : List LV} {i j : TI}
    (ho : o.op = .call { callee := .builtin .append, args := #[s, x], argTypes := #[t, t] }) (hs : lev T s = .one (.sl o1 es)) (hx : lev T x = .one (.sl o2 [c])) (hi : D.get t = some i) (hd : i.desc = .slice e) (hj : D.get e = some j)
    (hsz : Nat.blt 0 j.size = true) (hzs : j.zero.cells.size = j.size) (hby : Nat.ble j.bytes 1024 = true) (hc : Nat.beq c.length j.size = true) {n : Nat} (hn : es.length = n) (hown : Owned S e n o1) (hl : n ≤ 90000000) :
    LDo G o T S (fun r S' => ∃ o', r = .one (.sl o' (es ++ [c])) ∧ Owned S' e (n + 1) o' ∧ S.upto o1 S' ∧ ∀ b, o' = .own b → o1 = .own b ∨ S.fresh b) :=
  LDo.appendN hD ho hs hx hi hd hj hsz hzs hby hn rfl hown (by simpa using Nat.eq_of_beq_eq_true hc) (by omega)

theorem LVal.addU64 {G : Ctx} {o : Oper} {T : Nat → TV} {S : LS} {t u : TypeId} {x y : Operand} {a b : Int} (ho : o.op = .binOp .add t x y u)
    (hx : lev T x = .one (.v (.int .u64 a))) (hy : lev T y = .one (.v (.int .u64 b))) (h : 0 ≤ a + b ∧ a + b ≤ 18446744073709551615) : LVal G o T S (.one (.v (.int .u64 (a + b)))) := by
  have := LVal.binOp (G := G) (S := S) (D := []) (fun _ h => by cases h) ho hx hy (v := .int .u64 (IntKind.u64.wrap (a + b))) rfl
  rw [IntWalk.u64_in _ (by omega)] at this
  exact this
theorem LVal.subU64 {G : Ctx} {o : Oper} {T : Nat → TV} {S : LS} {t u : TypeId} {x y : Operand} {a b : Int} (ho : o.op = .binOp .sub t x y u)
    (hx : lev T x = .one (.v (.int .u64 a))) (hy : lev T y = .one (.v (.int .u64 b))) (h : 0 ≤ a - b ∧ a - b ≤ 18446744073709551615) : LVal G o T S (.one (.v (.int .u64 (a - b)))) := by
  have := LVal.binOp (G := G) (S := S) (D := []) (fun _ h => by cases h) ho hx hy (v := .int .u64 (IntKind.u64.wrap (a - b))) rfl
  rw [IntWalk.u64_in _ (by omega)] at this
  exact this
theorem LVal.mulU64 {G : Ctx} {o : Oper} {T : Nat → TV} {S : LS} {t u : TypeId} {x y : Operand} {a b : Int} (ho : o.op = .binOp .mul t x y u)
    (hx : lev T x = .one (.v (.int .u64 a))) (hy : lev T y = .one (.v (.int .u64 b))) (h : 0 ≤ a * b ∧ a * b ≤ 18446744073709551615) : LVal G o T S (.one (.v (.int .u64 (a * b)))) := by
  have := LVal.binOp (G := G) (S := S) (D := []) (fun _ h => by cases h) ho hx hy (v := .int .u64 (IntKind.u64.wrap (a * b))) rfl
  rw [IntWalk.u64_in _ (by omega)] at this
  exact this

/-- Parts of a row, by numbers. -/
theorem LVal.cutMap {G : Ctx} {D : Tab} (hD : TabOK G.P D) {o : Oper} {T : Nat → TV} {S : LS} {t e : TypeId} {x lo hi : Operand} {w0 : Own} {α : Type} {xs : List α} {f : α → List LV} {k k' : IntKind} {m n : Nat} {i j : TI} (ho : o.op = .slice t x (some lo) (some hi) none)
    (hx : lev T x = .one (.sl w0 (xs.map f))) (hlo : lev T lo = .one (.v (.int k (m : Int)))) (hhi : lev T hi = .one (.v (.int k' (n : Int)))) (hi' : D.get t = some i) (hd : i.desc = .slice e) (hj : D.get e = some j) (h1 : m ≤ n) (h2 : n ≤ xs.length) (hsz0 : Nat.blt 0 j.size = true) (hsz : ∀ c ∈ xs, (f c).length = j.size) :
    LVal G o T S (.one (.sl .sh (((xs.drop m).take (n - m)).map f))) := by
  have := LVal.sliceSl (S := S) hD ho hx hi' hd hj (l := (m : Int)) (h := (n : Int)) (by simp [bnd, hlo]) (by simp [bnd, hhi]) (by omega) (by omega) (by simp; omega) hsz0 (fun c hc => by
    obtain ⟨a, ha, rfl⟩ := List.mem_map.1 hc; exact hsz a ha)
  rw [show ((n : Int) - (m : Int)).toNat = n - m by omega, Int.toNat_natCast, ← List.map_drop, ← List.map_take] at this
  exact this
theorem LVal.takeMap {G : Ctx} {D : Tab} (hD : TabOK G.P D) {o : Oper} {T : Nat → TV} {S : LS} {t e : TypeId} {x hi : Operand} {w0 : Own} {α : Type} {xs : List α} {f : α → List LV} {k : IntKind} {n : Nat} {i j : TI} (ho : o.op = .slice t x none (some hi) none)
    (hx : lev T x = .one (.sl w0 (xs.map f))) (hhi : lev T hi = .one (.v (.int k (n : Int)))) (hi' : D.get t = some i) (hd : i.desc = .slice e) (hj : D.get e = some j) (h2 : n ≤ xs.length) (hsz0 : Nat.blt 0 j.size = true) (hsz : ∀ c ∈ xs, (f c).length = j.size) :
    LVal G o T S (.one (.sl .sh ((xs.take n).map f))) := by
  have := LVal.sliceSl (S := S) hD ho hx hi' hd hj (l := 0) (h := (n : Int)) rfl (by simp [bnd, hhi]) (by omega) (by omega) (by simp; omega) hsz0 (fun c hc => by
    obtain ⟨a, ha, rfl⟩ := List.mem_map.1 hc; exact hsz a ha)
  rw [show ((n : Int) - 0).toNat = n by omega, show (0 : Int).toNat = 0 from rfl, List.drop_zero, ← List.map_take] at this
  exact this
theorem LVal.dropMap {G : Ctx} {D : Tab} (hD : TabOK G.P D) {o : Oper} {T : Nat → TV} {S : LS} {t e : TypeId} {x lo : Operand} {w0 : Own} {α : Type} {xs : List α} {f : α → List LV} {k : IntKind} {m : Nat} {i j : TI} (ho : o.op = .slice t x (some lo) none none)
    (hx : lev T x = .one (.sl w0 (xs.map f))) (hlo : lev T lo = .one (.v (.int k (m : Int)))) (hi' : D.get t = some i) (hd : i.desc = .slice e) (hj : D.get e = some j) (h2 : m ≤ xs.length) (hsz0 : Nat.blt 0 j.size = true) (hsz : ∀ c ∈ xs, (f c).length = j.size) :
    LVal G o T S (.one (.sl .sh ((xs.drop m).map f))) := by
  have := LVal.sliceSl (S := S) hD ho hx hi' hd hj (l := (m : Int)) (h := ((xs.map f).length : Int)) (by simp [bnd, hlo]) rfl (by omega) (by simp; omega) (by omega) hsz0 (fun c hc => by
    obtain ⟨a, ha, rfl⟩ := List.mem_map.1 hc; exact hsz a ha)
  rw [Int.toNat_natCast, List.take_of_length_le (by simp), ← List.map_drop] at this
  exact this
/-- A part from a number of the text on. -/
theorem LVal.dropLit {G : Ctx} {D : Tab} (hD : TabOK G.P D) {o : Oper} {T : Nat → TV} {S : LS} {t e : TypeId} {x lo : Operand} {w0 : Own} {α : Type} {xs : List α} {f : α → List LV} {k : IntKind} {z : Int} {m : Nat} {i j : TI} (ho : o.op = .slice t x (some lo) none none)
    (hx : lev T x = .one (.sl w0 (xs.map f))) (hlo : lev T lo = .one (.v (.int k z))) (hz : z = (m : Int)) (hi' : D.get t = some i) (hd : i.desc = .slice e) (hj : D.get e = some j) (h2 : m ≤ xs.length) (hsz0 : Nat.blt 0 j.size = true) (hsz : ∀ c ∈ xs, (f c).length = j.size) :
    LVal G o T S (.one (.sl .sh ((xs.drop m).map f))) := .dropMap hD ho hx (hz ▸ hlo) hi' hd hj h2 hsz0 hsz
/-- An element at a number of the text. -/
theorem LVal.indexLit {G : Ctx} {D : Tab} (hD : TabOK G.P D) {o : Oper} {T : Nat → TV} {S : LS} {t e : TypeId} {x ix : Operand} {w : Own} {α : Type} {xs : List α} {f : α → List LV} {k : IntKind} {z : Int} {n : Nat} {i j : TI} (ho : o.op = .indexAddr t x ix)
    (hx : lev T x = .one (.sl w (xs.map f))) (hix : lev T ix = .one (.v (.int k z))) (hz : z = (n : Int)) (hi : D.get t = some i) (hd : i.desc = .slice e) (hj : D.get e = some j) {a : α} (hn : xs[n]? = some a) (hsz : (f a).length = j.size) :
    LVal G o T S (.ro (f a)) := by
  subst hz
  exact .indexSl hD ho hx hix hi hd hj (by omega) (by simp [hn]) hsz

theorem LVal.makeFunc {G : Ctx} {o : Oper} {T : Nat → TV} {S : LS} {fn : Fn} {xs : List Operand} {vs : List Value} (ho : o.op = .makeFunc fn #[] xs.toArray) (hx : xs.map (lev T) = vs.map fun v => .one (.v v)) :
    LVal G o T S (.one (.v (.func fn #[] vs.toArray))) :=
  .of_run fun K w ac hi hr => by
    have e : xs.map ac.eval = vs := by
      have hl : xs.length = vs.length := by have := congrArg List.length hx; simpa using this
      refine List.ext_getElem (by simpa using hl) fun i h1 h2 => ?_
      have h3 : xs[i] ∈ o.op.operands := by rw [ho]; simp [Op.operands]
      have h4 := hr _ h3
      have h5 : lev T xs[i] = .one (.v vs[i]) := by
        have h6 := congrArg (·[i]?) hx
        simp only [List.getElem?_map] at h6
        rw [List.getElem?_eq_getElem (by simpa using h1), List.getElem?_eq_getElem h2] at h6
        simpa using h6
      rw [h5] at h4
      simpa using h4.flat
    refine ⟨.func fn #[] (xs.map ac.eval).toArray, ?_, by rw [e]; exact .raw rfl⟩
    simp [execOp, ho, Instr.makeFunc]

/-- Equal numbers, strings, truth values do not differ. -/
theorem LVal.neqSame {G : Ctx} {D : Tab} (hD : TabOK G.P D) {o : Oper} {T : Nat → TV} {S : LS} {t u : TypeId} {x y : Operand} {k : IntKind} {a : Int} (ho : o.op = .binOp .neq t x y u)
    (hx : lev T x = .one (.v (.int k a))) (hy : lev T y = .one (.v (.int k a))) : LVal G o T S (.one (.v (.bool false))) :=
  LVal.binOp hD ho hx hy (by simp [lbin, lint])
theorem LVal.neqSameB {G : Ctx} {D : Tab} (hD : TabOK G.P D) {o : Oper} {T : Nat → TV} {S : LS} {t u : TypeId} {x y : Operand} {b : Bool} {i : TI} (ho : o.op = .binOp .neq t x y u)
    (hx : lev T x = .one (.v (.bool b))) (hy : lev T y = .one (.v (.bool b))) (hi : D.get t = some i) (hd : i.desc = .bool) : LVal G o T S (.one (.v (.bool false))) :=
  LVal.binOp hD ho hx hy (by simp [lbin, hi, hd, leql])

/-- Contracts over plain values. -/
theorem ArgsRel.flat {G : Ctx} {w : World} {K : Kept} : ∀ {vs : List Value}, vs.all (fun v => v.oneCell') = true → ArgsRel G w K (vs.map fun v => .one (.v v)) vs.toArray := by
  intro vs
  induction vs with
  | nil => intro _; exact .nil
  | cons v vs ih =>
    intro h
    simp only [List.all_cons, Bool.and_eq_true] at h
    exact .cons (.raw h.1) (ih h.2)
theorem ArgsRel.flat_eq {G : Ctx} {w : World} {K : Kept} {vs : List Value} {us : Array Value} (h : ArgsRel G w K (vs.map fun v => .one (.v v)) us) : us = vs.toArray := by
  refine Array.ext_getElem? fun i => ?_
  have hs := h.1
  rw [List.length_map] at hs
  by_cases hi : i < vs.length
  · have := h.2 i (.one (.v vs[i])) us[i] (by simp [hi]) (by simp [hs, hi])
    rw [Array.getElem?_eq_getElem (by omega), this.flat]
    simp [hi]
  · rw [Array.getElem?_eq_none (by omega)]
    simp; omega

theorem LFun.flat {G : Ctx} {f : FuncId} (vs : List Value) {v : Value} (hvs : vs.all (fun v => v.oneCell') = true) (hv : v.oneCell' = true) (h : ∀ w, Calls G.P f vs.toArray w fun e w' => e = .returned v ∧ Below w.heap.size w w') :
    LFun G f (vs.map fun v => .one (.v v)) (.one (.v v)) :=
  .of_calls (fun _ _ => .flat hvs) (fun _ _ _ h => h.flat_eq) (fun _ _ => .raw hv) h
theorem LFun.flatT {G : Ctx} {f : FuncId} (vs us : List Value) (hvs : vs.all (fun v => v.oneCell') = true) (hus : us.all (fun v => v.oneCell') = true) (h : ∀ w, Calls G.P f vs.toArray w fun e w' => e = .returned (.tuple us.toArray) ∧ Below w.heap.size w w') :
    LFun G f (vs.map fun v => .one (.v v)) (.tup (us.map fun v => .one (.v v))) :=
  .of_calls (fun _ _ => .flat hvs) (fun _ _ _ h => h.flat_eq) (fun _ _ => .tup _ _ (by simp) (fun j x v hj hv => by
    rw [List.getElem?_map] at hj
    have : us[j]? = some v := by simpa using hv
    rw [this] at hj
    simp only [Option.map_some, Option.some.injEq] at hj
    subst hj
    exact .raw (List.all_eq_true.1 hus v (List.mem_of_getElem? this)))) h

theorem LVal.shr {G : Ctx} {o : Oper} {T : Nat → TV} {S : LS} {t u : TypeId} {x y : Operand} {k k' : IntKind} {a b : Int} (ho : o.op = .binOp .shr t x y u)
    (hx : lev T x = .one (.v (.int k a))) (hy : lev T y = .one (.v (.int k' b))) (h : 0 ≤ b ∧ b ≤ 8) (hk : 8 ≤ k.bits) : LVal G o T S (.one (.v (.int k (a / 2 ^ b.toNat)))) :=
  .of_run fun K w ac hi hr => by
    have h1 := hr x (by rw [ho]; simp [Op.operands])
    have h2 := hr y (by rw [ho]; simp [Op.operands])
    rw [hx] at h1
    rw [hy] at h2
    refine ⟨.int k (a / 2 ^ b.toNat), ?_, .raw rfl⟩
    simp only [execOp, ho, h1.flat, h2.flat, Sem.run_bind, eqGuard_flat (by simp : ∀ xs, Value.int k a ≠ .agg xs) (by simp), Result.andThen_ok, binOp_shr, shift_shr k k' a b h.1 (by omega), Sem.run_pure]
theorem LVal.shr64 {G : Ctx} {o : Oper} {T : Nat → TV} {S : LS} {t u : TypeId} {x y : Operand} {k' : IntKind} {a b : Int} (ho : o.op = .binOp .shr t x y u)
    (hx : lev T x = .one (.v (.int .u64 a))) (hy : lev T y = .one (.v (.int k' b))) (h : 0 ≤ b ∧ b ≤ 64) : LVal G o T S (.one (.v (.int .u64 (a / 2 ^ b.toNat)))) :=
  .of_run fun K w ac hi hr => by
    have h1 := hr x (by rw [ho]; simp [Op.operands])
    have h2 := hr y (by rw [ho]; simp [Op.operands])
    rw [hx] at h1
    rw [hy] at h2
    refine ⟨.int .u64 (a / 2 ^ b.toNat), ?_, .raw rfl⟩
    have hb : IntKind.u64.bits = 64 := rfl
    simp only [execOp, ho, h1.flat, h2.flat, Sem.run_bind, eqGuard_flat (by simp : ∀ xs, Value.int .u64 a ≠ .agg xs) (by simp), Result.andThen_ok, binOp_shr, shift_shr .u64 k' a b h.1 (by omega), Sem.run_pure]

/-- A cut: what the code leaves, then the rest. -/
theorem LWp.join {G : Ctx} {M : Option Nat} {n : Nat} {c : Code} {Q : Exit → (Nat → TV) → LS → Prop} {T : Nat → TV} {S : LS} (J : (Nat → TV) → LS → Prop) (h : LWp G M n c (andThen J Q) T S) (k : ∀ T' S', J T' S' → Q .normal T' S') : LWp G M n c Q T S :=
  h.mono fun e T' S' hp => by cases e <;> first | exact k _ _ hp | exact hp

def headRegion : Code → Option Nat
  | .region id _ _ => some id
  | .seq a _ => headRegion a
  | .block _ c => headRegion c
  | .loop c => headRegion c
  | _ => none
def seqHead : Code → Option Nat
  | .seq a _ => headRegion a
  | .block _ c => headRegion c
  | _ => none
/-- A cut at a statement that is known by its first region. -/
theorem LWp.cut {G : Ctx} {M : Option Nat} {n : Nat} {c : Code} {Q : Exit → (Nat → TV) → LS → Prop} {T : Nat → TV} {S : LS} (r : Nat) (J : (Nat → TV) → LS → Prop) (_hc : seqHead c = some r) (h : LWp G M n c (andThen J Q) T S) (k : ∀ T' S', J T' S' → Q .normal T' S') : LWp G M n c Q T S := .join J h k

theorem Owned.new (S : LS) (b : Nat) (e : TypeId) (n : Nat) : Owned (S.newRow b e n) e n (.own b) := row_new S b e n
theorem Owned.ofN {S : LS} {e : TypeId} {n m : Nat} {o : Own} (h : Owned S e n o) (hm : n = m) : Owned S e m o := hm ▸ h

theorem LS.leX.upto {X : Nat → Prop} {S S' : LS} {o : Own} (h : S.upto o S') : S.leX X S' := ⟨fun b c hb _ => h.box b c hb, h.obj⟩
theorem LS.leX.newRow {X : Nat → Prop} {S : LS} {b : Nat} (h : S.fresh b) (e : TypeId) (n : Nat) : S.leX X (S.newRow b e n) := .of_le (.newRow (.refl _) h _ _)
theorem LS.leX.newBox {X : Nat → Prop} {S : LS} {b : Nat} (h : S.fresh b) (cs : List LV) : S.leX X (S.newBox b cs) := .of_le (.newBox (.refl _) h _)
theorem LS.leX.setBox {X : Nat → Prop} {S : LS} {b : Nat} (h : X b) (cs : List LV) : S.leX X (S.setBox b cs) := ⟨fun b' c hb hx => (box_set_ne S cs (fun e => hx (by rw [e]; exact h))).trans hb, fun _ _ h => h⟩
end Go.Proofs.Ytgkjhlmfgaaddaa.LF
end

section
/- The frame's operations once more (two). -/
namespace Go.Proofs.Ytgkjhlmfgaaddaa.LF
open Go.RowKit

theorem LVal.shrN {G : Ctx} {o : Oper} {T : Nat → TV} {S : LS} {t u : TypeId} {x y : Operand} {k' : IntKind} {m n q : Nat} {b : Int} (ho : o.op = .binOp .shr t x y u)
    (hx : lev T x = .one (.v (.int .u64 (m : Int)))) (hy : lev T y = .one (.v (.int k' b))) (hb : b = (n : Int)) (h : n ≤ 64) (hq : m / 2 ^ n = q) : LVal G o T S (.one (.v (.int .u64 (q : Int)))) := by
  subst hb
  subst hq
  have := LVal.shr64 (G := G) (S := S) ho hx hy (by omega)
  rw [Int.toNat_natCast] at this
  have e : ((m : Int) / 2 ^ n) = ((m / 2 ^ n : Nat) : Int) := by simp
  rwa [e] at this

/-- The memory forgotten, but for what is said of it. -/
theorem LWp.gen {G : Ctx} {M : Option Nat} {n : Nat} {c : Code} {Q : Exit → (Nat → TV) → LS → Prop} {T : Nat → TV} {S : LS} (P : LS → Prop) (h : P S) (k : ∀ S, P S → LWp G M n c Q T S) : LWp G M n c Q T S := k S h
theorem LOps.gen {G : Ctx} {M : Option Nat} {n : Nat} {ops : Array Oper} {l : List Oper} {Q : (Nat → TV) → LS → Prop} {T : Nat → TV} {S : LS} (P : LS → Prop) (h : P S) (k : ∀ S, P S → LOps G M n ops l Q T S) : LOps G M n ops l Q T S := k S h

end Go.Proofs.Ytgkjhlmfgaaddaa.LF
end

section
/- Slots that hang on a guard; comparisons of strings, of structs; nil checks; maps; calls of function values. -/
namespace Go.Proofs.Ytgkjhlmfgaaddaa.LF
open Go.RowKit

def stripTV : TV → TV
  | .when _ r => r
  | x => x
def condTV : TV → Bool
  | .when b _ => b
  | _ => true
def strip (T : Nat → TV) : Nat → TV := fun i => stripTV (T i)

theorem RepT.strip {G : Ctx} {w : World} {K : Kept} {x : TV} {v : Value} (h : RepT G w K x v) (hc : condTV x = true) : RepT G w K (stripTV x) v := by
  cases h with
  | when b r v h1 h0 => exact h1 hc
  | one h => exact .one h
  | agg l vs hs h => exact .agg l vs hs h
  | tup l vs hs h => exact .tup l vs hs h
  | ro l b off c h hr => exact .ro l b off c h hr
  | any v => exact .any v

theorem lev_strip (T : Nat → TV) (x : Operand) : lev (strip T) x = stripTV (lev T x) := by
  cases x with
  | tmp t => rfl
  | const v =>
    simp only [lev]
    unfold constTV
    split
    · rename_i cs
      cases cs.toList.all Value.oneCell' <;> rfl
    · rfl
    · rfl
  | _ => rfl

def whens (T : Nat → TV) : List Operand → List Bool
  | [] => []
  | x :: l => match lev T x with
    | .when b _ => b :: whens T l
    | _ => whens T l
def allT : List Bool → Prop
  | [] => True
  | b :: l => b = true ∧ allT l

theorem whens_cond {T : Nat → TV} : ∀ {l : List Operand}, allT (whens T l) → ∀ x ∈ l, condTV (lev T x) = true := by
  intro l
  induction l with
  | nil => intro _ x hx; simp at hx
  | cons y l ih =>
    intro h x hx
    unfold whens at h
    rcases List.mem_cons.1 hx with rfl | hx
    · cases hq : lev T x with
      | when b r => rw [hq] at h; exact h.1
      | _ => rfl
    · cases hq : lev T y with
      | when b r => rw [hq] at h; exact ih h.2 x hx
      | _ => rw [hq] at h; exact ih h x hx

/-- An operation of a kind. -/
theorem LVal.is {G : Ctx} {o : Oper} {T : Nat → TV} {S : LS} {r : TV} (p : Op) (_h : o.op = p) (h : LVal G o T S r) : LVal G o T S r := h

/-- Under a guard, the slots are what they are if it holds. -/
theorem LVal.strip {G : Ctx} {o : Oper} {T : Nat → TV} {S : LS} {r : TV} (hw : allT (whens T o.op.operands.toList)) (h : LVal G o (strip T) S r) : LVal G o T S r :=
  fun K w a hi hr => h K w a hi fun x hx => by
    rw [lev_strip]
    exact (hr x hx).strip (whens_cond hw x (by simpa using hx))

theorem LVal.when {G : Ctx} {o : Oper} {T : Nat → TV} {S : LS} {r : TV} (h : LVal G o T S r) : LVal G o T S (.when true r) := fun K w a hi hr =>
  upon_mono (fun _ _ ⟨v, K', h1, h2, h3, h4⟩ => ⟨v, K', h1, .when true r v (fun _ => h2) (by simp), h3, h4⟩) (fun _ _ _ h => h) (h K w a hi hr)

theorem LOps.when {G : Ctx} {M : Option Nat} {n : Nat} {ops : Array Oper} {o : Oper} {l : List Oper} {Q : (Nat → TV) → LS → Prop} {T : Nat → TV} {S : LS} {g : Bool} {r : TV} {d : Nat} (hg : wantedT ops T o = some g)
    (h : g = true → LVal G o T S r) (hd : o.dst = some d) (hn : Nat.blt d n = true) (k : LOps G M n ops l Q (upd T d (.when g r)) S) : LOps G M n ops (o :: l) Q T S := by
  cases g with
  | true => exact .valG (h rfl).when hg hd hn k
  | false =>
    intro m K w a h1 h2 h3
    unfold wpListIn
    rw [if_neg (by rw [wanted_of h2 hg]; simp)]
    refine ⟨fun f _ => fen_fn M f, k m K w _ h1 ?_ (by rw [put_defers]; exact h3)⟩
    have := h2.put (dst := o.dst) (r := .when false r) (v := undef) (by rw [hd]; exact hn) (.when false r _ (by simp) (fun _ => rfl))
    rw [hd] at this ⊢
    exact this

theorem LOps.whenS {G : Ctx} {M : Option Nat} {n : Nat} {ops : Array Oper} {o : Oper} {l : List Oper} {Q : (Nat → TV) → LS → Prop} {T : Nat → TV} {S : LS} {g : Bool} {r : TV} {d : Nat} (hg : wantedT ops T o = some g)
    (hw : g = true → allT (whens T o.op.operands.toList)) (h : LVal G o (strip T) S r) (hd : o.dst = some d) (hn : Nat.blt d n = true) (k : LOps G M n ops l Q (upd T d (.when g r)) S) : LOps G M n ops (o :: l) Q T S :=
  .when hg (fun hg => .strip (hw hg) h) hd hn k

theorem LRl.val0 {X : Nat → Nat → Prop} {G : Ctx} {M : Option Nat} {n : Nat} {ops : List Oper} {ord : List Nat} {Q : (Nat → TV) → LS → Prop} {l : List Oper} {p : Nat} {T : Nat → TV} {S : LS} {o : Oper} {r : TV} {d : Nat} (h : ∀ S', S.leX (X p) S' → LVal G o T S' r) (hg : o.guard = none) (hd : o.dst = some d) (hn : Nat.blt d n = true)
    (k : LRl X G M n ops ord Q l (p + 1) (upd T d r) S) : LRl X G M n ops ord Q (o :: l) p T S := .val h (by simp [wantedT, hg]) hd hn k
theorem LRl.whenS {X : Nat → Nat → Prop} {G : Ctx} {M : Option Nat} {n : Nat} {ops : List Oper} {ord : List Nat} {Q : (Nat → TV) → LS → Prop} {l : List Oper} {p : Nat} {T : Nat → TV} {S : LS} {o : Oper} {g : Bool} {r : TV} {d : Nat} (hg : wantedT ops.toArray T o = some g)
    (hw : g = true → allT (whens T o.op.operands.toList)) (h : ∀ S', S.leX (X p) S' → LVal G o (strip T) S' r) (hd : o.dst = some d) (hn : Nat.blt d n = true)
    (k : LRl X G M n ops ord Q l (p + 1) (upd T d (.when g r)) S) : LRl X G M n ops ord Q (o :: l) p T S := .when hg (fun S' hs hg => .strip (hw hg) (h S' hs)) hd hn k

/-- 'or', 'and', whose second part hangs on the first. -/
theorem LVal.pickOr {G : Ctx} {o : Oper} {T : Nat → TV} {S : LS} {c y : Operand} {b r : Bool} (ho : o.op = .pick c (.const (.bool true)) y) (hc : stripTV (lev T c) = .one (.v (.bool b))) {g : Bool} (hy : lev T y = .when g (.one (.v (.bool r))))
    (wc : condTV (lev T c) = true) (wy : b = false → g = true) : LVal G o T S (.one (.v (.bool (b || r)))) :=
  .of_run fun K w ac hi hr => by
    have h1 := (hr c (by rw [ho]; simp [Op.operands])).strip wc
    rw [hc] at h1
    have h2 := hr y (by rw [ho]; simp [Op.operands])
    refine ⟨.bool (b || r), ?_, .raw rfl⟩
    have e2 : ac.eval (.const (.bool true)) = .bool true := rfl
    have e1 := h1.flat
    cases b with
    | true => simp [execOp, ho, e1, e2, asBool]
    | false =>
      rw [hy] at h2
      have h3 : RepT G w K (.one (.v (.bool r))) (ac.eval y) := h2.strip (wy rfl)
      simp [execOp, ho, e1, h3.flat, asBool]

theorem LVal.pickAnd {G : Ctx} {o : Oper} {T : Nat → TV} {S : LS} {c y : Operand} {b r : Bool} (ho : o.op = .pick c y (.const (.bool false))) (hc : stripTV (lev T c) = .one (.v (.bool b))) {g : Bool} (hy : lev T y = .when g (.one (.v (.bool r))))
    (wc : condTV (lev T c) = true) (wy : b = true → g = true) : LVal G o T S (.one (.v (.bool (b && r)))) :=
  .of_run fun K w ac hi hr => by
    have h1 := (hr c (by rw [ho]; simp [Op.operands])).strip wc
    rw [hc] at h1
    have h2 := hr y (by rw [ho]; simp [Op.operands])
    refine ⟨.bool (b && r), ?_, .raw rfl⟩
    have e2 : ac.eval (.const (.bool false)) = .bool false := rfl
    have e1 := h1.flat
    cases b with
    | false => simp [execOp, ho, e1, e2, asBool]
    | true =>
      rw [hy] at h2
      have h3 : RepT G w K (.one (.v (.bool r))) (ac.eval y) := h2.strip (wy rfl)
      simp [execOp, ho, e1, h3.flat, asBool]

theorem beqF {b : Bool} (h : b = false) : (b == false) = true := by rw [h]; rfl
theorem beqT {b : Bool} (h : b = true) : (b == true) = true := by rw [h]; rfl
theorem andI {a b : Bool} (h : a = true) (k : b = true) : (a && b) = true := by rw [h, k]; rfl
theorem andL {a b : Bool} (h : (a && b) = true) : a = true := (Bool.and_eq_true _ _ ▸ h).1

/-- An element, its value told behind the place's proof. -/
theorem LVal.indexE {G : Ctx} {D : Tab} (hD : TabOK G.P D) {o : Oper} {T : Nat → TV} {S : LS} {t e : TypeId} {x ix : Operand} {w : Own} {α : Type} {xs : List α} {f : α → List LV} {k : IntKind} {n : Nat} {i j : TI} {r : TV} (ho : o.op = .indexAddr t x ix)
    (hx : lev T x = .one (.sl w (xs.map f))) (hix : lev T ix = .one (.v (.int k (n : Int)))) (hi : D.get t = some i) (hd : i.desc = .slice e) (hj : D.get e = some j) (hn : n < xs.length) (hsz : (f xs[n]).length = j.size) (hr : TV.ro (f xs[n]) = r) :
    LVal G o T S r := hr ▸ .indexMap hD ho hx hix hi hd hj hn hsz

/-- An element under a guard. -/
theorem LVal.indexG {G : Ctx} {D : Tab} (hD : TabOK G.P D) {o : Oper} {T : Nat → TV} {S : LS} {t e : TypeId} {x ix : Operand} {w : Own} {α : Type} [Inhabited α] {xs : List α} {f : α → List LV} {k : IntKind} {n : Nat} {i j : TI} {r : TV} (ho : o.op = .indexAddr t x ix)
    (hx : lev T x = .one (.sl w (xs.map f))) (hix : lev T ix = .one (.v (.int k (n : Int)))) (hi : D.get t = some i) (hd : i.desc = .slice e) (hj : D.get e = some j) (hr : TV.ro (f (xs.getD n default)) = r) (hn : n < xs.length) (hsz : (f (xs.getD n default)).length = j.size) :
    LVal G o T S r := by
  have h : xs.getD n default = xs[n] := by simp [hn]
  rw [h] at hr hsz
  exact hr ▸ .indexMap hD ho hx hix hi hd hj hn hsz

/-- An element of a row that is written out, at a number of the text. -/
theorem LVal.indexC {G : Ctx} {D : Tab} (hD : TabOK G.P D) {o : Oper} {T : Nat → TV} {S : LS} {t e : TypeId} {x ix : Operand} {w : Own} {α : Type} {xs : List α} {f : α → List LV} {k : IntKind} {z : Int} {i j : TI} {a : α} {r : TV} (ho : o.op = .indexAddr t x ix)
    (hx : lev T x = .one (.sl w (xs.map f))) (hix : lev T ix = .one (.v (.int k z))) (hi : D.get t = some i) (hd : i.desc = .slice e) (hj : D.get e = some j) (hz : 0 ≤ z) (hn : xs[z.toNat]? = some a) (hsz : (f a).length = j.size) (hr : TV.ro (f a) = r) :
    LVal G o T S r := hr ▸ .indexLit hD ho hx hix (n := z.toNat) (by omega) hi hd hj hn hsz

/-- A pointer, or a function, that is one. -/
theorem LVal.nilCheck {G : Ctx} {o : Oper} {T : Nat → TV} {S : LS} {x : Operand} {a : Addr} (ho : o.op = .nilCheck x) (hx : lev T x = .one (.v (.pointer (some a)))) : LVal G o T S (.one (.v (.pointer (some a)))) :=
  .of_run fun K w ac hi hr => by
    have h1 := hr x (by rw [ho]; simp [Op.operands])
    rw [hx] at h1
    exact ⟨_, by simp [execOp, ho, h1.flat], .raw rfl⟩

/-- Two strings. -/
theorem toList_eq {s t : ByteArray} : (s.toList == t.toList) = decide (s = t) := by
  by_cases h : s = t
  · subst h; simp
  · have : ¬ s.toList = t.toList := fun e => h (by
      rw [ByteArray.toList_eq, ByteArray.toList_eq] at e
      obtain ⟨⟨x⟩⟩ := s
      obtain ⟨⟨y⟩⟩ := t
      simp at e
      subst e; rfl)
    simp [h, this]

theorem LVal.eqStr {G : Ctx} {o : Oper} {T : Nat → TV} {S : LS} {t u : TypeId} {x y : Operand} {a b : ByteArray} (ho : o.op = .binOp .eql t x y u) (hx : lev T x = .one (.v (.string a))) (hy : lev T y = .one (.v (.string b))) :
    LVal G o T S (.one (.v (.bool (decide (a = b))))) :=
  .of_run fun K w ac hi hr => by
    have h1 := hr x (by rw [ho]; simp [Op.operands])
    have h2 := hr y (by rw [ho]; simp [Op.operands])
    rw [hx] at h1
    rw [hy] at h2
    refine ⟨_, ?_, .raw rfl⟩
    have e := binOp_str (P := G.P) (w := w) (t := t) (op := .eql) (x := a) (y := b) (v := .bool (a.toList == b.toList)) rfl
    simp only [execOp, ho, h1.flat, h2.flat, Sem.run_bind, eqGuard_flat (a := .string a) (by simp) (by simp), Result.andThen_ok, e, Sem.run_pure, toList_eq]

theorem LVal.neqStr {G : Ctx} {o : Oper} {T : Nat → TV} {S : LS} {t u : TypeId} {x y : Operand} {a b : ByteArray} (ho : o.op = .binOp .neq t x y u) (hx : lev T x = .one (.v (.string a))) (hy : lev T y = .one (.v (.string b))) :
    LVal G o T S (.one (.v (.bool (!decide (a = b))))) :=
  .of_run fun K w ac hi hr => by
    have h1 := hr x (by rw [ho]; simp [Op.operands])
    have h2 := hr y (by rw [ho]; simp [Op.operands])
    rw [hx] at h1
    rw [hy] at h2
    refine ⟨_, ?_, .raw rfl⟩
    have e := binOp_str (P := G.P) (w := w) (t := t) (op := .neq) (x := a) (y := b) (v := .bool !(a.toList == b.toList)) rfl
    simp only [execOp, ho, h1.flat, h2.flat, Sem.run_bind, eqGuard_flat (a := .string a) (by simp) (by simp), Result.andThen_ok, e, Sem.run_pure, toList_eq]

/-- Two plain cells of a type. -/
def eqPlain (d : TypeDesc) (a b : Value) : Option Bool :=
  match d, a, b with
  | .bool, .bool x, .bool y => some (x == y)
  | .int _, .int k x, .int k' y => bif k == k' then some (x == y) else none
  | .string, .string x, .string y => some (decide (x = y))
  | _, _, _ => none

/-- Two values of a type, by their cells. -/
def eqCells (D : Tab) : Nat → TypeId → List LV → List LV → Option Bool
  | 0, _, _, _ => none
  | n + 1, t, l1, l2 => match D.get t with
    | none => none
    | some i => match i.desc with
      | .struct fs => fs.toList.foldr (fun f r => match D.get f.type with
        | none => none
        | some j => match eqCells D n f.type ((l1.drop f.offset).take j.size) ((l2.drop f.offset).take j.size), r with
          | some b, some c => some (b && c)
          | _, _ => none) (some true)
      | d => match l1, l2 with
        | [.v a], [.v b] => eqPlain d a b
        | _, _ => none

/-- A type whose values are compared part by part. -/
def eqOK (P : Program) (D : Tab) : Nat → TypeId → Bool
  | 0, _ => false
  | n + 1, t => match D.get t with
    | none => false
    | some i => match i.desc with
      | .struct fs => !P.stoodInHeld t && fs.toList.all fun f => f.name != "_" && eqOK P D n f.type
      | .bool => true
      | .int _ => true
      | .string => true
      | _ => false

structure EqTy (P : Program) (D : Tab) (t : TypeId) : Prop where
  ok : eqOK P D 4 t = true
  gd : P.eqGuardType P.depth t = false

theorem eqPlain_run {P : Program} {w : World} {t : TypeId} {i : TI} (h : TIok P t i) {a b : Value} {c : Bool} (he : eqPlain i.desc a b = some c) (n : Nat) : (Op.equalIn (n + 1) t a b).run P w = .ok c w := by
  have hu := h.und
  unfold eqPlain at he
  split at he
  · rename_i hd; rw [hd] at hu
    obtain rfl := Option.some.inj he
    exact run_equalIn_bool' w n t _ _ hu
  · rename_i q k x k' y hd; rw [hd] at hu
    cases hk : k == k' with
    | false => rw [hk] at he; cases he
    | true =>
      rw [hk] at he
      obtain rfl : k = k' := by simpa using hk
      obtain rfl := Option.some.inj he
      exact run_equalIn_int w n t _ _ _ _ hu
  · rename_i hd; rw [hd] at hu
    obtain rfl := Option.some.inj he
    rw [← toList_eq]
    exact run_equalIn_string w n t _ _ hu
  · cases he


/-- A value's cells, plain ones. -/
def RepC (i : TI) (l : List LV) (v : Value) : Prop :=
  (i.isAgg = true → ∃ vs : Array Value, v = .agg vs ∧ vs.size = l.length ∧ ∀ (j : Nat) x, l[j]? = some (.v x) → vs[j]? = some x) ∧ (i.isAgg = false → ∀ x, l = [.v x] → v = x)

theorem eqFields_run {P : Program} {D : Tab} (hD : TabOK P D) {w : World} {n m : Nat} (ih : ∀ (t : TypeId) (i : TI) (l1 l2 : List LV) (v1 v2 : Value) (b : Bool), D.get t = some i → RepC i l1 v1 → RepC i l2 v2 → eqCells D n t l1 l2 = some b → eqOK P D n t = true → (Op.equalIn (n + m) t v1 v2).run P w = .ok b w)
    {xs ys : Array Value} {l1 l2 : List LV} (hx1 : xs.size = l1.length) (hx2 : ∀ (j : Nat) x, l1[j]? = some (.v x) → xs[j]? = some x) (hy1 : ys.size = l2.length) (hy2 : ∀ (j : Nat) x, l2[j]? = some (.v x) → ys[j]? = some x) :
    ∀ (fs : List Field) (b : Bool), (fs.all fun f => f.name != "_" && eqOK P D n f.type) = true → fs.foldr (fun f r => match D.get f.type with
        | none => none
        | some j => match eqCells D n f.type ((l1.drop f.offset).take j.size) ((l2.drop f.offset).take j.size), r with
          | some b, some c => some (b && c)
          | _, _ => none) (some true) = some b → (Op.eqFields (n + m) xs ys fs).run P w = .ok b w := by
  have hpart : ∀ {zs : Array Value} {l : List LV} (_ : zs.size = l.length) (_ : ∀ (j : Nat) x, l[j]? = some (.v x) → zs[j]? = some x) {t : TypeId} {j : TI} {off : Nat} (_ : TIok P t j), (j.isAgg = true ∨ ∃ x, (l.drop off).take j.size = [.v x]) →
      ∃ v, (part t zs off).run P w = .ok v w ∧ RepC j ((l.drop off).take j.size) v := by
    intro zs l hz1 hz2 t j off hj hc
    cases ha : j.isAgg with
    | true =>
      refine ⟨_, run_part_agg hj ha zs off, ⟨fun _ => ⟨_, rfl, ?_, fun q x hq => ?_⟩, fun h => by rw [ha] at h; cases h⟩⟩
      · simp only [Array.size_extract, List.length_take, List.length_drop, hz1]; omega
      · rw [List.getElem?_take] at hq
        split at hq
        · rename_i hlt
          rw [List.getElem?_drop] at hq
          have h1 := hz2 _ x hq
          have h2 := (Array.getElem?_eq_some_iff.1 h1).1
          rw [Array.getElem?_extract]
          rw [if_pos (by omega)]
          exact h1
        · cases hq
    | false =>
      rcases hc with hc | ⟨x, hc⟩
      · rw [ha] at hc; cases hc
      · have h0 : l[off]? = some (.v x) := by
          have : ((l.drop off).take j.size)[0]? = some (.v x) := by rw [hc]; rfl
          rw [List.getElem?_take] at this
          split at this
          · simpa using this
          · cases this
        refine ⟨x, run_part_one hj ha zs off x (hz2 _ _ h0), ⟨fun h => (by rw [ha] at h; cases h), fun _ y hy => ?_⟩⟩
        rw [hc] at hy
        simpa using hy
  have hshape : ∀ {t : TypeId} {j : TI} {a1 a2 : List LV} {b : Bool}, D.get t = some j → eqCells D n t a1 a2 = some b → (j.isAgg = true ∨ ∃ x, a1 = [.v x]) ∧ (j.isAgg = true ∨ ∃ x, a2 = [.v x]) := by
    intro t j a1 a2 b hj he
    cases n with
    | zero => simp [eqCells] at he
    | succ n =>
      unfold eqCells at he
      rw [hj] at he
      simp only at he
      split at he
      · rename_i fs hd
        have : j.isAgg = true := by simp [TI.isAgg, hd]
        exact ⟨.inl this, .inl this⟩
      · split at he
        · exact ⟨.inr ⟨_, rfl⟩, .inr ⟨_, rfl⟩⟩
        · cases he
  intro fs
  induction fs with
  | nil => intro b _ h; obtain rfl := Option.some.inj h; simp [Op.eqFields]
  | cons f fs ihf =>
    intro b hall h
    rw [List.all_cons, Bool.and_eq_true, Bool.and_eq_true] at hall
    obtain ⟨⟨hn, hok⟩, hall⟩ := hall
    rw [List.foldr_cons] at h
    cases hj : D.get f.type with
    | none => rw [hj] at h; cases h
    | some j =>
      rw [hj] at h
      simp only at h
      split at h
      · rename_i b1 c he hr
        obtain rfl := Option.some.inj h
        obtain ⟨s1, s2⟩ := hshape hj he
        obtain ⟨v1, p1, r1⟩ := hpart hx1 hx2 (off := f.offset) (hD.get hj) s1
        obtain ⟨v2, p2, r2⟩ := hpart hy1 hy2 (off := f.offset) (hD.get hj) s2
        have e1 := ih f.type j _ _ v1 v2 b1 hj r1 r2 he hok
        have e2 := ihf c hall hr
        have hne : f.name ≠ "_" := by simpa using hn
        simp only [Op.eqFields, hne, ne_eq, not_false_eq_true, if_true, Sem.run_bind, p1, p2, e1, Result.andThen_ok]
        cases b1 with
        | true => simpa using e2
        | false => simp
      · cases h

theorem eqCells_run {P : Program} {D : Tab} (hD : TabOK P D) {w : World} {m : Nat} : ∀ (n : Nat) (t : TypeId) (i : TI) (l1 l2 : List LV) (v1 v2 : Value) (b : Bool), D.get t = some i → RepC i l1 v1 → RepC i l2 v2 → eqCells D n t l1 l2 = some b → eqOK P D n t = true → (Op.equalIn (n + m) t v1 v2).run P w = .ok b w := by
  intro n
  induction n with
  | zero => intro t i l1 l2 v1 v2 b _ _ _ h; simp [eqCells] at h
  | succ n ih =>
    intro t i l1 l2 v1 v2 b hi r1 r2 he hok
    rw [Nat.succ_add]
    have hu := (hD.get hi).und
    unfold eqCells at he
    unfold eqOK at hok
    rw [hi] at he hok
    simp only at he hok
    split at he
    · rename_i fs hd
      rw [hd] at hok hu
      simp only [Bool.and_eq_true] at hok
      obtain ⟨h1, h2⟩ := hok
      have ha : i.isAgg = true := by simp [TI.isAgg, hd]
      obtain ⟨xs, rfl, a1, a2⟩ := r1.1 ha
      obtain ⟨ys, rfl, b1, b2⟩ := r2.1 ha
      have hf : P.fieldsOf t = fs := by simp [Program.fieldsOf, hu]
      rw [run_equalIn_struct w _ t xs ys (by rw [hf]; exact hu) (by simpa using h1), hf]
      exact eqFields_run hD ih a1 a2 b1 b2 fs.toList b h2 he
    · rename_i hns
      split at he
      · rename_i a c
        have ha : i.isAgg = false := by
          cases hq : i.desc <;> rw [hq] at he <;> first | rfl | (simp [TI.isAgg, hq]; done) | (simp [eqPlain] at he)
        obtain rfl := r1.2 ha _ rfl
        obtain rfl := r2.2 ha _ rfl
        exact eqPlain_run (hD.get hi) he _
      · cases he

theorem RepC.of {G : Ctx} {w : World} {K : Kept} {i : TI} {l : List LV} {v : Value} (ha : i.isAgg = true) (h : RepT G w K (.agg l) v) : RepC i l v := by
  obtain ⟨vs, rfl, h1, h2⟩ := h.agg_inv
  refine ⟨fun _ => ⟨vs, rfl, h1, fun j x hj => ?_⟩, fun h => by rw [ha] at h; cases h⟩
  have hlt : j < vs.size := by rw [h1]; exact (List.getElem?_eq_some_iff.1 hj).1
  have := h2 j _ vs[j] hj (Array.getElem?_eq_getElem hlt)
  rw [Array.getElem?_eq_getElem hlt]
  generalize vs[j] = u at this
  cases this
  rfl

/-- Two structs. -/
theorem LVal.eqAgg {G : Ctx} {D : Tab} (hD : TabOK G.P D) {o : Oper} {T : Nat → TV} {S : LS} {t u : TypeId} {x y : Operand} {l1 l2 : List LV} {i : TI} {b : Bool} (ho : o.op = .binOp .eql t x y u) (hx : lev T x = .agg l1) (hy : lev T y = .agg l2)
    (hi : D.get t = some i) (ha : i.isAgg = true) (hok : EqTy G.P D t) (he : eqCells D 4 t l1 l2 = some b) : LVal G o T S (.one (.v (.bool b))) :=
  .of_run fun K w ac _ hr => by
    have h1 := hr x (by rw [ho]; simp [Op.operands])
    have h2 := hr y (by rw [ho]; simp [Op.operands])
    rw [hx] at h1
    rw [hy] at h2
    have r1 := RepC.of ha h1
    have r2 := RepC.of ha h2
    obtain ⟨xs, e1, _⟩ := h1.agg_inv
    obtain ⟨ys, e2, _⟩ := h2.agg_inv
    rw [e1] at r1
    rw [e2] at r2
    have := eqCells_run hD (w := w) (m := 9996) 4 t i l1 l2 _ _ b hi r1 r2 he hok.ok
    refine ⟨.bool b, ?_, .raw rfl⟩
    simp only [execOp, ho, e1, e2, Sem.run_bind, run_eqGuard_agg w .eql t x y xs ys hok.gd, Result.andThen_ok, run_eql_struct, this, Sem.run_pure]

theorem LVal.neqAgg {G : Ctx} {D : Tab} (hD : TabOK G.P D) {o : Oper} {T : Nat → TV} {S : LS} {t u : TypeId} {x y : Operand} {l1 l2 : List LV} {i : TI} {b : Bool} (ho : o.op = .binOp .neq t x y u) (hx : lev T x = .agg l1) (hy : lev T y = .agg l2)
    (hi : D.get t = some i) (ha : i.isAgg = true) (hok : EqTy G.P D t) (he : eqCells D 4 t l1 l2 = some b) : LVal G o T S (.one (.v (.bool (!b)))) :=
  .of_run fun K w ac _ hr => by
    have h1 := hr x (by rw [ho]; simp [Op.operands])
    have h2 := hr y (by rw [ho]; simp [Op.operands])
    rw [hx] at h1
    rw [hy] at h2
    have r1 := RepC.of ha h1
    have r2 := RepC.of ha h2
    obtain ⟨xs, e1, _⟩ := h1.agg_inv
    obtain ⟨ys, e2, _⟩ := h2.agg_inv
    rw [e1] at r1
    rw [e2] at r2
    have := eqCells_run hD (w := w) (m := 9996) 4 t i l1 l2 _ _ b hi r1 r2 he hok.ok
    refine ⟨.bool (!b), ?_, .raw rfl⟩
    simp only [execOp, ho, e1, e2, Sem.run_bind, run_eqGuard_agg w .neq t x y xs ys hok.gd, Result.andThen_ok, run_neq_struct, this, Sem.run_pure]

end Go.Proofs.Ytgkjhlmfgaaddaa.LF
end

section
/- Maps from numbers; calls of function values; nil slices. -/
namespace Go.Proofs.Ytgkjhlmfgaaddaa.LF
open Go.RowKit

/-- A map's entries. -/
def alGet : List (Int × Value) → Int → Option Value
  | [], _ => none
  | p :: l, k => if k = p.1 then some p.2 else alGet l k
def alPut : List (Int × Value) → Int → Value → List (Int × Value)
  | [], k, v => [(k, v)]
  | p :: l, k, v => if k = p.1 then (k, v) :: l else p :: alPut l k v

theorem alGet_put (k : Int) (v : Value) : ∀ (l : List (Int × Value)) (j : Int), alGet (alPut l k v) j = if j = k then some v else alGet l j := by
  intro l
  induction l with
  | nil => intro j; simp [alPut, alGet]
  | cons p l ih =>
    intro j
    unfold alPut
    split
    · rename_i h
      subst h
      simp only [alGet]
      split <;> rfl
    · rename_i h
      simp only [alGet, ih]
      by_cases h1 : j = p.1
      · rw [if_pos h1, if_pos h1, if_neg (fun e => h (by rw [← e, h1]))]
      · rw [if_neg h1, if_neg h1]

/-- A value's cells are plain. -/
def flatV (v : Value) : Bool := v.cells.toList.all Value.oneCell'
def rawTV : Value → TV
  | .agg cs => .agg (cs.toList.map .v)
  | x => .one (.v x)

theorem rawTV_rep {G : Ctx} {w : World} {K : Kept} {v : Value} (h : flatV v = true) : RepT G w K (rawTV v) v := by
  unfold rawTV
  split
  · rename_i cs
    refine .agg _ _ (by simp) fun j x u hj hu => ?_
    rw [List.getElem?_map] at hj
    have hc : cs.toList[j]? = some u := by simpa using hu
    rw [hc] at hj
    obtain rfl : LV.v u = x := by simpa using hj
    exact .raw u (List.all_eq_true.1 h u (by simpa [Value.cells] using List.mem_of_getElem? hc))
  · rename_i hn
    refine .one (.raw _ ?_)
    have : v.cells = #[v] := by cases v <;> first | rfl | exact absurd rfl (hn _)
    simpa [flatV, this] using h

structure IsMap (es : Array MapEntry) (al : List (Int × Value)) : Prop where
  ents : es.toList.map (fun e => (e.key, e.val)) = al.map fun p => (.int .i64 p.1, p.2)
  flat : ∀ p ∈ al, flatV p.2 = true

/-- A block that is a map. -/
def MapAt (S : LS) (m : Nat) (al : List (Int × Value)) : Prop := ∃ es c, S.obj m = some (.map es c) ∧ IsMap es al

theorem IsMap.empty : IsMap #[] [] := ⟨rfl, by simp⟩

def alFind : List (Int × Value) → Int → Nat → Option (Nat × Value)
  | [], _, _ => none
  | p :: l, k, i => if k = p.1 then some (i, p.2) else alFind l k (i + 1)

theorem alFind_get (k : Int) : ∀ (l : List (Int × Value)) (i : Nat), (alFind l k i).map (·.2) = alGet l k := by
  intro l
  induction l with
  | nil => intro i; rfl
  | cons p l ih => intro i; simp only [alFind, alGet]; split <;> simp [ih]

theorem alFind_none {k : Int} : ∀ {l : List (Int × Value)} {i : Nat} (v : Value), alFind l k i = none → alPut l k v = l ++ [(k, v)] := by
  intro l
  induction l with
  | nil => intro i v _; rfl
  | cons p l ih =>
    intro i v h
    simp only [alFind] at h
    split at h
    · cases h
    · rename_i hn
      simp only [alPut, if_neg hn, ih v h, List.cons_append]

theorem alFind_some {k : Int} : ∀ {l : List (Int × Value)} {i j : Nat} {u : Value} (v : Value), alFind l k i = some (j, u) → i ≤ j ∧ j - i < l.length ∧ l[j - i]? = some (k, u) ∧ alPut l k v = l.set (j - i) (k, v) := by
  intro l
  induction l with
  | nil => intro i j u v h; cases h
  | cons p l ih =>
    intro i j u v h
    simp only [alFind] at h
    split at h
    · rename_i hk
      obtain ⟨rfl, rfl⟩ : i = j ∧ p.2 = u := by simpa using h
      refine ⟨Nat.le_refl _, by simp, by simp [hk], ?_⟩
      simp [alPut, hk]
    · rename_i hk
      obtain ⟨h1, h2, h3, h4⟩ := ih v h
      obtain ⟨q, rfl⟩ : ∃ q, j = i + 1 + q := ⟨j - (i + 1), by omega⟩
      have e1 : i + 1 + q - (i + 1) = q := by omega
      have e2 : i + 1 + q - i = q + 1 := by omega
      rw [e1] at h2 h3 h4
      refine ⟨by omega, by simp [e2, h2], by simpa [e2] using h3, ?_⟩
      simp only [alPut, if_neg hk, h4, e2, List.set_cons_succ]

theorem findNow_al {q : IntKind} {k : Int} : ∀ (es : List MapEntry) (al : List (Int × Value)) (i : Nat), es.map (fun e => (e.key, e.val)) = al.map (fun p => (Value.int .i64 p.1, p.2)) → Instr.findNow (.int q) (.int .i64 k) es i = some (alFind al k i) := by
  intro es
  induction es with
  | nil => intro al i h; cases al <;> simp at h; rfl
  | cons e es ih =>
    intro al i h
    cases al with
    | nil => simp at h
    | cons p al =>
      simp only [List.map_cons, List.cons.injEq, Prod.mk.injEq] at h
      obtain ⟨⟨h1, h2⟩, h3⟩ := h
      unfold Instr.findNow
      simp only [h1, Instr.sameNow, if_true, alFind]
      by_cases hk : k = p.1
      · subst hk; simp [h2]
      · have : (k == p.1) = false := by simpa using hk
        simp only [this, if_neg hk]
        exact ih al (i + 1) h3

theorem run_lookup {P : Program} {w : World} {t kt et : TypeId} {q : IntKind} {j : TI} {m : Nat} {es : Array MapEntry} {c : Nat} {al : List (Int × Value)} {k : Int} (ht : P.underlying t = some (.map kt et)) (hk : P.underlying kt = some (.int q)) (hj : TIok P et j)
    (hm : w.heap[m]? = some (.map es c)) (ha : IsMap es al) : (Instr.lookup t (.map (some m)) (.int .i64 k) false).run P w = .ok ((alGet al k).getD j.zero) w := by
  have h1 := findNow_al (q := q) (k := k) es.toList al 0 ha.ents
  have hg := alFind_get k al 0
  have hc : ∀ em, (Instr.checkKey em 10000 kt (.int .i64 k)).run P w = .ok () w := fun em => by
    have key : ∀ n, (Instr.checkKey em (n + 1) kt (.int .i64 k)).run P w = .ok () w := fun n => by simp [Instr.checkKey, run_underlying hk]
    exact key 9999
  have hf : (Instr.findKey kt (.int .i64 k) es.toList).run P w = .ok (alFind al k 0) w := by simp [Instr.findKey, run_underlying hk, h1]
  cases hq : alFind al k 0 with
  | none =>
    rw [hq] at hg hf
    have : alGet al k = none := by simpa using hg.symm
    simp [Instr.lookup, run_underlying ht, MapKept.run_getObj_map hm, hc, hf, run_zero' hj, this, Result.andThen]
  | some p =>
    rw [hq] at hg hf
    have : alGet al k = some p.2 := by simpa using hg.symm
    simp [Instr.lookup, run_underlying ht, MapKept.run_getObj_map hm, hc, hf, this, Result.andThen]

theorem run_mapUpdate {P : Program} {w : World} {t kt et : TypeId} {q : IntKind} {m : Nat} {es : Array MapEntry} {c : Nat} {al : List (Int × Value)} {k : Int} {v : Value} (ht : P.underlying t = some (.map kt et)) (hk : P.underlying kt = some (.int q))
    (hm : w.heap[m]? = some (.map es c)) (ha : IsMap es al) (hv : flatV v = true) : ∃ es' c', (Instr.mapUpdate t (.map (some m)) (.int .i64 k) v).run P w = .ok () (w.putObj m (.map es' c')) ∧ IsMap es' (alPut al k v) := by
  have h1 := findNow_al (q := q) (k := k) es.toList al 0 ha.ents
  have hc : ∀ em, (Instr.checkKey em 10000 kt (.int .i64 k)).run P w = .ok () w := fun em => by
    have key : ∀ n, (Instr.checkKey em (n + 1) kt (.int .i64 k)).run P w = .ok () w := fun n => by simp [Instr.checkKey, run_underlying hk]
    exact key 9999
  have hf : (Instr.findKey kt (.int .i64 k) es.toList).run P w = .ok (alFind al k 0) w := by simp [Instr.findKey, run_underlying hk, h1]
  have hflat : ∀ p ∈ alPut al k v, flatV p.2 = true := fun p hp => by
    have key : ∀ l : List (Int × Value), (∀ p ∈ l, flatV p.2 = true) → ∀ p ∈ alPut l k v, flatV p.2 = true := by
      intro l
      induction l with
      | nil => intro _ p hp; simp [alPut] at hp; rw [hp]; exact hv
      | cons x l ih =>
        intro hl p hp
        unfold alPut at hp
        split at hp
        · rcases List.mem_cons.1 hp with rfl | hp
          · exact hv
          · exact hl p (List.mem_cons_of_mem _ hp)
        · rcases List.mem_cons.1 hp with rfl | hp
          · exact hl p (by simp)
          · exact ih (fun p hp => hl p (List.mem_cons_of_mem _ hp)) p hp
    exact key al ha.flat p hp
  cases hq : alFind al k 0 with
  | none =>
    rw [hq] at hf
    refine ⟨es.push ⟨.int .i64 k, v, c⟩, c + 1, ?_, ?_, hflat⟩
    · simp [Instr.mapUpdate, run_underlying ht, MapKept.run_getObj_map hm, hc, hf, MapKept.run_setObj_map _ hm, Result.andThen, World.putObj]
    · rw [alFind_none v hq]
      simp [ha.ents]
  | some p =>
    obtain ⟨j, u⟩ := p
    rw [hq] at hf
    obtain ⟨_, g2, g3, g4⟩ := alFind_some v hq
    simp only [Nat.sub_zero] at g2 g3 g4
    have hlen : es.size = al.length := by have := congrArg List.length ha.ents; simpa using this
    have hje : ∃ e, es[j]? = some e ∧ e.key = .int .i64 k := by
      refine ⟨es[j], Array.getElem?_eq_getElem (by omega), ?_⟩
      have := congrArg (·[j]?) ha.ents
      simp only [List.getElem?_map, g3, Option.map_some] at this
      rw [Array.getElem?_toList, Array.getElem?_eq_getElem (by omega)] at this
      simp at this
      exact this.1
    obtain ⟨e, he, hek⟩ := hje
    have hst : (Instr.keyThatStays (.int .i64 k) (.int .i64 k)).run P w = .ok (.int .i64 k) w := by simp [Instr.keyThatStays, Instr.sameBits]
    refine ⟨es.modify j fun e => { e with key := .int .i64 k, val := v }, c, ?_, ?_, hflat⟩
    · simp [Instr.mapUpdate, run_underlying ht, MapKept.run_getObj_map hm, hc, hf, he, hek, hst, MapKept.run_setObj_map _ hm, Result.andThen, World.putObj]
    · rw [g4]
      apply List.ext_getElem?
      intro i
      have hi := congrArg (·[i]?) ha.ents
      simp only [List.getElem?_map, Array.getElem?_toList] at hi
      simp only [List.getElem?_map, Array.getElem?_toList, List.getElem?_set, Array.getElem?_modify]
      by_cases hij : j = i
      · subst hij
        simp [he, g2]
      · simp only [if_neg hij]
        exact hi

/-- A map looked at. -/
theorem LVal.lookup {G : Ctx} {D : Tab} (hD : TabOK G.P D) {o : Oper} {T : Nat → TV} {S : LS} {t kt et : TypeId} {x ix : Operand} {m : Nat} {k : Int} {q : IntKind} {i ik j : TI} {al : List (Int × Value)} (ho : o.op = .lookup t x ix false)
    (hx : lev T x = .one (.v (.map (some m)))) (hix : lev T ix = .one (.v (.int .i64 k))) (hi : D.get t = some i) (hd : i.desc = .map kt et) (hk : D.get kt = some ik) (hdk : ik.desc = .int q) (hj : D.get et = some j) (hz : flatV j.zero = true) (hm : MapAt S m al)
    {v : Value} (hv : (alGet al k).getD j.zero = v) {r : TV} (hr : rawTV v = r) : LVal G o T S r :=
  .of_run fun K w ac hinv hr' => by
    have h1 := hr' x (by rw [ho]; simp [Op.operands])
    have h2 := hr' ix (by rw [ho]; simp [Op.operands])
    rw [hx] at h1
    rw [hix] at h2
    obtain ⟨es, c, hb, ha⟩ := hm
    obtain ⟨_, _, hh, _⟩ := hinv.obj m _ hb
    have e1 := (hD.get hi).und
    rw [hd] at e1
    have e2 := (hD.get hk).und
    rw [hdk] at e2
    have := run_lookup (w := w) (k := k) e1 e2 (hD.get hj) hh ha
    rw [hv] at this
    refine ⟨v, ?_, ?_⟩
    · simp only [execOp, ho, h1.flat, h2.flat, Sem.run_bind, this, Result.andThen_ok, Sem.run_pure]
    · rw [← hr]
      refine rawTV_rep ?_
      rw [← hv]
      cases hq : alGet al k with
      | none => exact hz
      | some u =>
        have : ∃ p ∈ al, p.2 = u := by
          clear hv this ha hb
          induction al with
          | nil => cases hq
          | cons p al ih =>
            simp only [alGet] at hq
            split at hq
            · exact ⟨p, by simp, by simpa using hq⟩
            · obtain ⟨p', h1, h2⟩ := ih hq; exact ⟨p', List.mem_cons_of_mem _ h1, h2⟩
        obtain ⟨p, hp, rfl⟩ := this
        exact ha.flat p hp

/-- A map written. -/
theorem LDo.mapUpdate {G : Ctx} {D : Tab} (hD : TabOK G.P D) {o : Oper} {T : Nat → TV} {S : LS} {t kt et : TypeId} {x ix y : Operand} {m : Nat} {k : Int} {q : IntKind} {i ik : TI} {al : List (Int × Value)} {v : Value} (ho : o.op = .mapUpdate t x ix y)
    (hx : lev T x = .one (.v (.map (some m)))) (hix : lev T ix = .one (.v (.int .i64 k))) (hi : D.get t = some i) (hd : i.desc = .map kt et) (hk : D.get kt = some ik) (hdk : ik.desc = .int q) (hy : lev T y = rawTV v) (hvf : flatV v = true) (hm : MapAt S m al) :
    LDo G o T S (fun r S' => r = .tup [] ∧ ∃ o, S' = S.setObj m o ∧ MapAt S' m (alPut al k v)) := by
  intro K w ac hinv hr'
  have h1 := hr' x (by rw [ho]; simp [Op.operands])
  have h2 := hr' ix (by rw [ho]; simp [Op.operands])
  have h3 := hr' y (by rw [ho]; simp [Op.operands])
  rw [hx] at h1
  rw [hix] at h2
  rw [hy] at h3
  have hyv : ac.eval y = v := by
    generalize ac.eval y = u at h3
    unfold rawTV at h3
    split at h3
    · rename_i cs
      obtain ⟨vs, rfl, g1, g2⟩ := h3.agg_inv
      congr 1
      refine Array.ext (by simpa using g1) fun j hj1 hj2 => ?_
      have := g2 j _ vs[j] (by rw [List.getElem?_map]; rw [Array.getElem?_toList, Array.getElem?_eq_getElem hj2]; rfl) (Array.getElem?_eq_getElem hj1)
      generalize vs[j] = u at this
      cases this; rfl
    · exact h3.flat
  obtain ⟨es, c, hb, ha⟩ := hm
  obtain ⟨b1, b2, hh, b3, b4⟩ := hinv.obj m _ hb
  have e1 := (hD.get hi).und
  rw [hd] at e1
  have e2 := (hD.get hk).und
  rw [hdk] at e2
  obtain ⟨es', c', hrun, ha'⟩ := run_mapUpdate (w := w) (k := k) (v := v) e1 e2 hh ha hvf
  have hlt : m < w.heap.size := (Array.getElem?_eq_some_iff.1 hh).1
  obtain ⟨j1, j2⟩ := hinv.putObj (o' := .map es' c') b1 hlt hh b3 rfl (by simp) b4
  unfold Oper.wp
  simp only [execOp, ho, h1.flat, h2.flat, hyv, Sem.run_bind, hrun, Result.andThen_ok, Sem.run_pure]
  exact ⟨.tup [], undef, S.setObj m (.map es' c'), K, rfl, .tup [] #[] rfl (by simp), j1, j2, rfl, _, rfl, es', c', setObj_obj _ _ _, ha'⟩

theorem LDo.makeMap {G : Ctx} {o : Oper} {T : Nat → TV} {S : LS} {t : TypeId} (ho : o.op = .makeMap t none) :
    LDo G o T S (fun r S' => ∃ m, S.fresh m ∧ r = .one (.v (.map (some m))) ∧ S' = S.setObj m (.map #[] 0)) :=
  .of_run fun K w ac hinv _ => by
    refine ⟨_, .map (some w.heap.size), _, K, w.alloc (.map #[] 0), ?_, .one (.raw _ rfl), hinv.newObj _ rfl (by simp), .alloc hinv _, w.heap.size, hinv.fresh, rfl, rfl⟩
    have : (Instr.makeMap t none).run G.P w = .ok (.map (some w.heap.size)) (w.alloc (.map #[] 0)) := rfl
    simp only [execOp, ho, Option.map_none, Sem.run_bind, this, Result.andThen_ok, Sem.run_pure]

theorem MapAt.new (S : LS) (m : Nat) : MapAt (S.setObj m (.map #[] 0)) m [] := ⟨#[], 0, setObj_obj _ _ _, IsMap.empty⟩

/-- A slice held against nil. -/
theorem LDo.eqNil {G : Ctx} {D : Tab} (hD : TabOK G.P D) {o : Oper} {T : Nat → TV} {S : LS} {t u e : TypeId} {x : Operand} {w0 : Own} {es : List (List LV)} {i : TI} (ho : o.op = .binOp .eql t x (.const (.slice none 0 0)) u)
    (hx : lev T x = .one (.sl w0 es)) (hi : D.get t = some i) (hd : i.desc = .slice e) : LDo G o T S (fun r S' => ∃ b, r = .one (.v (.bool b)) ∧ S' = S ∧ (b = true → es = [])) :=
  .of_run fun K w ac hinv hr => by
    have h1 := hr x (by rw [ho]; simp [Op.operands])
    rw [hx] at h1
    have e1 := (hD.get hi).und
    rw [hd] at e1
    have h2 := h1.of_one
    have e2 : ac.eval (.const (.slice none 0 0)) = .slice none 0 0 := rfl
    have key : ∀ (a : Option Addr) (n c : Nat), ac.eval x = .slice a n c → (execOp ac.eval o).run G.P w = .ok (.value (.bool a.isNone)) w := fun a n c h => by
      have : (Op.equal t (.slice a n c) (.slice none 0 0)).run G.P w = .ok a.isNone w := by
        have k2 : ∀ d, (Op.equalIn (d + 1) t (.slice a n c) (.slice none 0 0)).run G.P w = .ok a.isNone w := fun d => by
          cases a <;> simp [Op.equalIn, run_underlying e1]
        exact k2 9999
      simp only [execOp, ho, h, e2, Sem.run_bind, eqGuard_flat (a := .slice a n c) (by simp) (by simp), Result.andThen_ok, binOp, this, Sem.run_pure]
    generalize hv : ac.eval x = v at h2
    cases h2 with
    | nil => exact ⟨_, _, S, K, w, key _ _ _ hv, .one (.raw _ rfl), hinv, .refl _ _, _, rfl, rfl, fun _ => rfl⟩
    | emp a cap => exact ⟨_, _, S, K, w, key _ _ _ hv, .one (.raw _ rfl), hinv, .refl _ _, _, rfl, rfl, fun _ => rfl⟩
    | row _ _ b off cap z c => exact ⟨_, _, S, K, w, key _ _ _ hv, .one (.raw _ rfl), hinv, .refl _ _, _, rfl, rfl, fun h => by cases h⟩

/-- A call of a function value. -/
theorem LDo.callV {G : Ctx} {o : Oper} {T : Nat → TV} {S : LS} {g : Operand} {f : FuncId} {fn : Func} {cs : List Value} {xs : List Operand} {ts : Array TypeId} {args : List TV} {R : TV → LS → Prop}
    (ho : o.op = .call { callee := .value g, args := xs.toArray, argTypes := ts }) (hg : lev T g = .one (.v (.func (.func f) #[] cs.toArray))) (hx : xs.map (fun x => shTV (lev T x)) = args) (hcs : cs.all (fun v => v.oneCell') = true) (hf : G.P.funcs[f]? = some fn) (hb : fn.body.isSome = true) (hn : fn.name ≠ "runtime.NumGoroutine")
    (h : LCalls G f (args ++ cs.map fun v => .one (.v v)) R S) : LDo G o T S R := by
  intro K w a hi hr
  have hgv := hr g (by rw [ho]; simp [Op.operands, Call.operands])
  rw [hg] at hgv
  have hrun : (execOp a.eval o).run G.P w = .ok (.enter f ((xs.map a.eval) ++ cs).toArray) w := by
    have hbn : fn.body ≠ none := fun e => by rw [e] at hb; cases hb
    simp [execOp, ho, resolve, hgv.flat, Deferred.ofValue, invoke, callFunc, hf, hn, hbn]
  unfold Oper.wp
  rw [hrun]
  refine (h K w _ hi ⟨by rw [← hx]; simp, fun i x v hx' hv => ?_⟩).mono fun e w' hp => ?_
  · subst hx
    rw [List.getElem?_toArray] at hv
    by_cases hlt : i < xs.length
    · rw [List.getElem?_append_left (by simpa using hlt)] at hx' hv
      rw [List.getElem?_map, List.getElem?_eq_getElem hlt] at hx' hv
      simp only [Option.map_some, Option.some.injEq] at hx' hv
      subst hx'; subst hv
      exact (hr xs[i] (by rw [ho]; simp [Op.operands, Call.operands])).shTV
    · rw [List.getElem?_append_right (by simpa using hlt)] at hx' hv
      simp only [List.length_map] at hx' hv
      rw [List.getElem?_map, hv] at hx'
      obtain rfl : TV.one (.v v) = x := by simpa using hx'
      exact .one (.raw v (List.all_eq_true.1 hcs v (List.mem_of_getElem? hv)))
  · obtain ⟨r', v, S', K', rfl, h2, h3, h4, h5⟩ := hp
    exact ⟨r', v, S', K', rfl, h2, h3, h4, h5⟩

theorem Rep.ptr_inv {G : Ctx} {w : World} {K : Kept} {l : List LV} {v : Value} (h : Rep G w K (.p l) v) :
    ∃ (b off : Nat) (c : Nat → Value), v = .pointer (some ⟨b, off, none⟩) ∧ (∀ (j : Nat) x, l[j]? = some x → w.cell? ⟨b, off + j, none⟩ = some (c j) ∧ K b (off + j)) ∧ ∀ (j : Nat) x, l[j]? = some x → Rep G w K x (c j) := by
  cases h with | ptr l b off c h hr => exact ⟨b, off, c, rfl, h, hr⟩
theorem RepT.p_ro {G : Ctx} {w : World} {K : Kept} {l : List LV} {v : Value} (h : RepT G w K (.one (.p l)) v) : RepT G w K (.ro l) v := by
  obtain ⟨b, off, c, rfl, h1, h2⟩ := h.of_one.ptr_inv
  exact .ro l b off c h1 h2

/-- A pointer to what stays is none of nil: its place. -/
theorem LVal.nilCheckP {G : Ctx} {o : Oper} {T : Nat → TV} {S : LS} {x : Operand} {l : List LV} (ho : o.op = .nilCheck x) (hx : lev T x = .one (.p l)) : LVal G o T S (.ro l) :=
  .of_run fun K w ac hi hr => by
    have h1 := hr x (by rw [ho]; simp [Op.operands])
    rw [hx] at h1
    obtain ⟨b, off, c, e, _⟩ := h1.of_one.ptr_inv
    exact ⟨ac.eval x, by simp [execOp, ho, e], h1.p_ro⟩
theorem LVal.eqNilP {G : Ctx} {D : Tab} (hD : TabOK G.P D) {o : Oper} {T : Nat → TV} {S : LS} {t u e : TypeId} {x : Operand} {l : List LV} {i : TI} (ho : o.op = .binOp .eql t x (.const (.pointer none)) u) (hx : lev T x = .one (.p l)) (hi : D.get t = some i) (hd : i.desc = .pointer e) : LVal G o T S (.one (.v (.bool false))) :=
  .of_run fun K w ac hi' hr => by
    have h1 := hr x (by rw [ho]; simp [Op.operands])
    rw [hx] at h1
    obtain ⟨b, off, c, ev, _⟩ := h1.of_one.ptr_inv
    have e1 := (hD.get hi).und
    rw [hd] at e1
    have e2 : ac.eval (.const (.pointer none)) = .pointer none := rfl
    have he := equal_of (w := w) e1 (a := .pointer (some ⟨b, off, none⟩)) (b := .pointer none) (c := false) rfl
    refine ⟨_, ?_, .raw rfl⟩
    simp only [execOp, ho, ev, e2, Sem.run_bind, eqGuard_flat (a := .pointer (some ⟨b, off, none⟩)) (by simp) (by simp), Result.andThen_ok, Go.binOp, he, Sem.run_pure]
theorem LVal.neqNilP {G : Ctx} {D : Tab} (hD : TabOK G.P D) {o : Oper} {T : Nat → TV} {S : LS} {t u e : TypeId} {x : Operand} {l : List LV} {i : TI} (ho : o.op = .binOp .neq t x (.const (.pointer none)) u) (hx : lev T x = .one (.p l)) (hi : D.get t = some i) (hd : i.desc = .pointer e) : LVal G o T S (.one (.v (.bool true))) :=
  .of_run fun K w ac hi' hr => by
    have h1 := hr x (by rw [ho]; simp [Op.operands])
    rw [hx] at h1
    obtain ⟨b, off, c, ev, _⟩ := h1.of_one.ptr_inv
    have e1 := (hD.get hi).und
    rw [hd] at e1
    have e2 : ac.eval (.const (.pointer none)) = .pointer none := rfl
    have he := equal_of (w := w) e1 (a := .pointer (some ⟨b, off, none⟩)) (b := .pointer none) (c := false) rfl
    refine ⟨_, ?_, .raw rfl⟩
    simp only [execOp, ho, ev, e2, Sem.run_bind, eqGuard_flat (a := .pointer (some ⟨b, off, none⟩)) (by simp) (by simp), Result.andThen_ok, Go.binOp, he, Sem.run_pure]
    rfl

end Go.Proofs.Ytgkjhlmfgaaddaa.LF
end
