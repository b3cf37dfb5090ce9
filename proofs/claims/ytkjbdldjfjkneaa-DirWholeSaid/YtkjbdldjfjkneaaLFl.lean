/- A region whose order is drawn, some of its operations turning the memory one behind the other. -/
import Derived.Test.YtkjbdldjfjkneaaLFh
set_option linter.unusedVariables false
set_option linter.unusedSimpArgs false
namespace Go.Proofs.Ytkjbdldjfjkneaa.LF
open Go.RowKit
set_option linter.unusedVariables false

/-- What an operation that only reads may lean on. -/
structure LS.leX (X : Nat → Prop) (S S' : LS) : Prop where
  box : ∀ b cs, S.box b = some cs → ¬ X b → S'.box b = some cs
  obj : ∀ b o, S.obj b = some o → S'.obj b = some o
abbrev LS.leV : LS → LS → Prop := LS.leX fun _ => False

theorem LS.leX.refl {X : Nat → Prop} (S : LS) : S.leX X S := ⟨fun _ _ h _ => h, fun _ _ h => h⟩
theorem LS.leX.trans {X : Nat → Prop} {S S' S'' : LS} (h : S.leX X S') (k : S'.leX X S'') : S.leX X S'' := ⟨fun b c hb hx => k.box b c (h.box b c hb hx) hx, fun b c hb => k.obj b c (h.obj b c hb)⟩
theorem LS.leX.of_le {X : Nat → Prop} {S S' : LS} (h : S.le S') : S.leX X S' := ⟨fun b c hb _ => h.box b c hb, h.obj⟩

def getO (ord : List Nat) (q : Nat) : Nat := ord.getD q 0

/-- What the slots hold, the operations of a set being done in an order. -/
def pv (ops : List Oper) (ord : List Nat) (T0 : Nat → TV) (r : Nat → TV) (L : Nat → Bool) : Nat → (Nat → TV)
  | 0 => T0
  | m + 1 => bif L (getO ord m) then putT (pv ops ord T0 r L m) ((ops[getO ord m]?).bind (·.dst)) (r (getO ord m)) else pv ops ord T0 r L m

def edgesOK (ops : List Oper) : Bool := (List.range ops.length).all fun j => match ops[j]? with
  | none => true
  | some y => y.after.toList.all fun e => !Region.binds .any e || Nat.blt e.on j

def ordOK (ops : List Oper) (ord : List Nat) : Bool :=
  let B := befores ops []
  edgesOK ops && Nat.beq ord.length ops.length && (List.range ops.length).all (fun i => ord.any (Nat.beq i)) && (List.range ord.length).all (fun q => Nat.blt (getO ord q) ops.length) &&
  (List.range ord.length).all fun q => (List.range q).all fun p => !Nat.beq (getO ord p) (getO ord q) && match ops[getO ord p]?, ops[getO ord q]? with
    | some x, some y => !clash ops x y || (B.getD (getO ord q) 0).testBit (getO ord p)
    | _, _ => true

/-- All that comes behind it hangs on it. -/
def laterAll (ops : List Oper) (ord : List Nat) (p : Nat) : Bool :=
  let B := befores ops []
  (List.range ord.length).all fun q => !Nat.blt p q || (B.getD (getO ord q) 0).testBit (getO ord p)
/-- It hangs on all that comes ahead of it. -/
def earlierAll (ops : List Oper) (ord : List Nat) (p : Nat) : Bool :=
  let B := befores ops []
  (List.range p).all fun q => (B.getD (getO ord p) 0).testBit (getO ord q)

theorem edges_on {ops : List Oper} (h : edgesOK ops = true) {j : Nat} {y : Oper} (hy : ops[j]? = some y) (e : Edge) (he : e ∈ y.after) (hb : Region.binds .any e = true) : e.on < j := by
  have hj : j < ops.length := (List.getElem?_eq_some_iff.1 hy).1
  simp only [edgesOK, List.all_eq_true] at h
  have h1 := h j (List.mem_range.2 hj)
  rw [hy] at h1
  simp only [List.all_eq_true] at h1
  have := h1 e (by simpa using he)
  rw [hb] at this
  simpa [Nat.blt_eq] using this

theorem before_dep' {ops : List Oper} {j k : Nat} {y : Oper} (hon : edgesOK ops = true) (hy : ops[j]? = some y) (h : ((befores ops []).getD j 0).testBit k = true) :
    ∃ e ∈ y.after, Region.binds .any e = true ∧ (k = e.on ∨ ((befores ops []).getD e.on 0).testBit k = true) := by
  have hg := befores_get ops [] j y hy
  simp only [List.length_nil, Nat.zero_add] at hg
  rw [List.getD_eq_getElem?_getD, hg] at h
  simp only [Option.getD_some, maskOf] at h
  rcases mask_bit _ k _ 0 h with h | ⟨e, he, hb, h⟩
  · simp at h
  · have he' : e ∈ y.after := by simpa using he
    refine ⟨e, he', hb, h.imp id fun h => ?_⟩
    have hlt := edges_on hon hy e he' hb
    rw [List.getD_eq_getElem?_getD, List.getElem?_take, if_pos hlt, ← List.getD_eq_getElem?_getD] at h
    exact h

structure OrdOK (ops : List Oper) (ord : List Nat) : Prop where
  edges : edgesOK ops = true
  len : ord.length = ops.length
  all : ∀ i, i < ops.length → ∃ q, q < ord.length ∧ getO ord q = i
  inn : ∀ q, q < ord.length → getO ord q < ops.length
  inj : ∀ p q, p < ord.length → q < ord.length → getO ord p = getO ord q → p = q
  clash : ∀ p q x y, p < q → q < ord.length → ops[getO ord p]? = some x → ops[getO ord q]? = some y → clash ops x y = true → ((befores ops []).getD (getO ord q) 0).testBit (getO ord p) = true

theorem OrdOK.of {ops : List Oper} {ord : List Nat} (h : ordOK ops ord = true) : OrdOK ops ord := by
  simp only [ordOK, Bool.and_eq_true, List.all_eq_true] at h
  obtain ⟨⟨⟨⟨h1, h2⟩, h3⟩, h5⟩, h4⟩ := h
  have hlen := Nat.eq_of_beq_eq_true h2
  have hpair : ∀ p q, p < q → q < ord.length → getO ord p ≠ getO ord q := fun p q hpq hq e => by
    have := (h4 q (List.mem_range.2 hq) p (List.mem_range.2 hpq)).1
    rw [e] at this; simp at this
  refine ⟨h1, hlen, fun i hi => ?_, fun q hq => by simpa [Nat.blt_eq] using h5 q (List.mem_range.2 hq), fun p q hp hq e => ?_, fun p q x y hpq hq hx hy hc => ?_⟩
  · have := h3 i (List.mem_range.2 hi)
    rw [List.any_eq_true] at this
    obtain ⟨k, hk, he⟩ := this
    obtain rfl := Nat.eq_of_beq_eq_true he
    obtain ⟨q, hq, rfl⟩ := List.mem_iff_getElem.1 hk
    exact ⟨q, hq, by simp [getO, List.getD_eq_getElem?_getD, hq]⟩
  · rcases Nat.lt_trichotomy p q with h | h | h
    · exact absurd e (hpair p q h hq)
    · exact h
    · exact absurd e.symm (hpair q p h hp)
  · have := (h4 q (List.mem_range.2 hq) p (List.mem_range.2 hpq)).2
    rw [hx, hy] at this
    simpa [hc] using this

theorem pv_seen {ops : List Oper} {ord : List Nat} (hok : OrdOK ops ord) {L : Nat → Bool} (hc : Closed ops L) {T0 : Nat → TV} {r : Nat → TV} {q : Nat} {y : Oper} (hq : q < ord.length) (hy : ops[getO ord q]? = some y) (hj : L (getO ord q) = false)
    (hdep : ∀ e ∈ y.after, Region.binds .any e = true → L e.on = true) {t : Nat} (ht : t ∈ looks ops y ∨ y.dst = some t) :
    ∀ m, m ≤ ord.length → pv ops ord T0 r L m t = pv ops ord T0 r (fun _ => true) (min m q) t := by
  have hbef : ∀ k, ((befores ops []).getD (getO ord q) 0).testBit k = true → L k = true := fun k hk => by
    obtain ⟨e, he, hb, h⟩ := before_dep' hok.edges hy hk
    rcases h with rfl | h
    · exact hdep e he hb
    · exact hc.out _ (hdep e he hb) _ h
  intro m
  induction m with
  | zero => intro _; simp [pv]
  | succ m ih =>
    intro hm
    have ih := ih (by omega)
    rcases Nat.lt_trichotomy m q with hlt | rfl | hgt
    · rw [show min (m + 1) q = m + 1 by omega]
      rw [show min m q = m by omega] at ih
      simp only [pv, cond_true]
      cases hx : ops[getO ord m]? with
      | none =>
        simp only [Option.bind_none]
        have : ∀ (T : Nat → TV) v, putT T none v = T := fun _ _ => rfl
        rw [this, this]
        cases L (getO ord m) <;> exact ih
      | some x =>
        simp only [Option.bind_some]
        by_cases hd : x.dst = some t
        · have := hbef _ (hok.clash m q x y hlt hq hx hy (clash_of_write hd ht))
          rw [this, hd]
          simp only [cond_true, putT_eq]
        · rw [putT_ne _ _ _ hd, ← ih]
          cases L (getO ord m)
          · rfl
          · simp only [cond_true]; rw [putT_ne _ _ _ hd]
    · rw [show min (m + 1) m = m by omega]
      rw [show min m m = m by omega] at ih
      simp only [pv, hj, cond_false]
      exact ih
    · rw [show min (m + 1) q = q by omega]
      rw [show min m q = q by omega] at ih
      simp only [pv]
      cases hx : ops[getO ord m]? with
      | none =>
        simp only [Option.bind_none]
        have : ∀ (T : Nat → TV) v, putT T none v = T := fun _ _ => rfl
        rw [this]
        cases L (getO ord m) <;> exact ih
      | some x =>
        simp only [Option.bind_some]
        by_cases hd : x.dst = some t
        · have hb := hok.clash q m y x hgt (by omega) hy hx (clash_of_read hd ht)
          have : L (getO ord m) = false := by
            cases hL : L (getO ord m) with
            | false => rfl
            | true => have := hc.out _ hL _ hb; rw [hj] at this; cases this
          rw [this]; simp only [cond_false]; exact ih
        · rw [← ih]
          cases L (getO ord m)
          · rfl
          · simp only [cond_true]; rw [putT_ne _ _ _ hd]

theorem pv_put {ops : List Oper} {ord : List Nat} (hok : OrdOK ops ord) {L : Nat → Bool} (hc : Closed ops L) {T0 : Nat → TV} {r : Nat → TV} {q : Nat} {y : Oper} (hq : q < ord.length) (hy : ops[getO ord q]? = some y) (hj : L (getO ord q) = false) (t : Nat) :
    ∀ m, m ≤ ord.length → pv ops ord T0 r (withJ L (getO ord q)) m t = if q < m then putT (pv ops ord T0 r L m) y.dst (r (getO ord q)) t else pv ops ord T0 r L m t := by
  intro m
  induction m with
  | zero => intro _; simp [pv]
  | succ m ih =>
    intro hm
    have ih := ih (by omega)
    rcases Nat.lt_trichotomy m q with hlt | rfl | hgt
    · rw [if_neg (by omega)]
      rw [if_neg (by omega)] at ih
      have hne : getO ord m ≠ getO ord q := fun e => by have := hok.inj m q (by omega) hq e; omega
      simp only [pv, withJ_ne L hne]
      cases L (getO ord m)
      · simpa using ih
      · simp only [cond_true]
        by_cases hd : (ops[getO ord m]?).bind (·.dst) = some t
        · rw [hd, putT_eq, putT_eq]
        · rw [putT_ne _ _ _ hd, putT_ne _ _ _ hd]; exact ih
    · rw [if_pos (by omega)]
      rw [if_neg (by omega)] at ih
      simp only [pv, hy, Option.bind_some, withJ_same, cond_true, hj, cond_false]
      by_cases hd : y.dst = some t
      · rw [hd, putT_eq, putT_eq]
      · rw [putT_ne _ _ _ hd, putT_ne _ _ _ hd]; exact ih
    · rw [if_pos (by omega)]
      rw [if_pos (by omega)] at ih
      have hne : getO ord m ≠ getO ord q := fun e => by have := hok.inj m q (by omega) hq e; omega
      simp only [pv, withJ_ne L hne]
      cases hL : L (getO ord m) with
      | false => simp only [cond_false]; exact ih
      | true =>
        simp only [cond_true]
        by_cases hd : (ops[getO ord m]?).bind (·.dst) = some t
        · obtain ⟨x, hx, hxd⟩ := Option.bind_eq_some_iff.1 hd
          have hyt : y.dst ≠ some t := fun e => by
            have hb := hok.clash q m y x hgt (by omega) hy hx (clash_of_write e (.inr hxd))
            have := hc.out _ hL _ hb
            rw [hj] at this; cases this
          rw [putT_ne _ _ _ hyt, hd, putT_eq, putT_eq]
        · rw [putT_ne _ _ _ hd, ih]
          by_cases hyt : y.dst = some t
          · rw [hyt, putT_eq, putT_eq]
          · rw [putT_ne _ _ _ hyt, putT_ne _ _ _ hyt, putT_ne _ _ _ hd]

/-- Only what was done counts. -/
theorem pv_congr {ops : List Oper} {ord : List Nat} {T0 : Nat → TV} {r r' : Nat → TV} {L : Nat → Bool} : ∀ m, (∀ q, q < m → L (getO ord q) = true → r' (getO ord q) = r (getO ord q)) → pv ops ord T0 r' L m = pv ops ord T0 r L m := by
  intro m
  induction m with
  | zero => intro _; rfl
  | succ m ih =>
    intro h
    simp only [pv]
    rw [ih fun q hq => h q (by omega)]
    cases hL : L (getO ord m) with
    | false => rfl
    | true => simp only [cond_true]; rw [h m (by omega) hL]

/-- Two of which either may come next, and all else hangs on one of them or came ahead. -/
def altOK (ops : List Oper) (ord ord2 : List Nat) (p : Nat) : Bool :=
  let B := befores ops []
  ordOK ops ord2 && Nat.beq ord2.length ord.length && Nat.blt (p + 1) ord.length && Nat.beq (getO ord2 p) (getO ord (p + 1)) && Nat.beq (getO ord2 (p + 1)) (getO ord p) && (List.range ord.length).all (fun q => Nat.beq q p || Nat.beq q (p + 1) || Nat.beq (getO ord2 q) (getO ord q)) &&
  (List.range ord.length).all fun q => !Nat.blt (p + 1) q || ((B.getD (getO ord q) 0).testBit (getO ord p) || (B.getD (getO ord q) 0).testBit (getO ord2 p))

structure AltOK (ops : List Oper) (ord ord2 : List Nat) (p : Nat) : Prop where
  hok : OrdOK ops ord2
  len : ord2.length = ord.length
  hp : p + 1 < ord.length
  s1 : getO ord2 p = getO ord (p + 1)
  s2 : getO ord2 (p + 1) = getO ord p
  same : ∀ q, q < ord.length → q ≠ p → q ≠ p + 1 → getO ord2 q = getO ord q
  cov : ∀ q, p + 1 < q → q < ord.length → ((befores ops []).getD (getO ord q) 0).testBit (getO ord p) = true ∨ ((befores ops []).getD (getO ord q) 0).testBit (getO ord2 p) = true

theorem AltOK.of {ops : List Oper} {ord ord2 : List Nat} {p : Nat} (h : altOK ops ord ord2 p = true) : AltOK ops ord ord2 p := by
  simp only [altOK, Bool.and_eq_true, List.all_eq_true] at h
  obtain ⟨⟨⟨⟨⟨⟨h1, h0⟩, h2⟩, h3⟩, h4⟩, h5⟩, h6⟩ := h
  refine ⟨.of h1, Nat.eq_of_beq_eq_true h0, by simpa [Nat.blt_eq] using h2, Nat.eq_of_beq_eq_true h3, Nat.eq_of_beq_eq_true h4, fun q hq n1 n2 => ?_, fun q hq hq2 => ?_⟩
  · have := h5 q (List.mem_range.2 hq)
    simp only [Bool.or_eq_true] at this
    rcases this with (h | h) | h
    · exact absurd (Nat.eq_of_beq_eq_true h) n1
    · exact absurd (Nat.eq_of_beq_eq_true h) n2
    · exact Nat.eq_of_beq_eq_true h
  · have := h6 q (List.mem_range.2 hq2)
    have hb : Nat.blt (p + 1) q = true := by rw [Nat.blt_eq]; exact hq
    rw [hb] at this
    simpa using this

/-- An operation that turns the logical memory; a call of yield is one, too. -/
def LAct (G : Ctx) (M : Option Nat) (o : Oper) (T : Nat → TV) (S : LS) (R : TV → LS → Prop) : Prop :=
  ∀ K w a (N : Act → World → Prop) (Q : Exit → Act → World → Prop), Inv G S K w → (∀ x ∈ o.op.operands, RepT G w K (lev T x) (a.eval x)) →
    (∀ r v S' K' w', RepT G w' K' r v → Inv G S' K' w' → Ext K w K' w' → R r S' → N (a.put o.dst v) w') → o.wpIn (fen M) 0 G.P a w N Q

theorem LDo.toAct {G : Ctx} {M : Option Nat} {o : Oper} {T : Nat → TV} {S : LS} {R : TV → LS → Prop} (h : LDo G o T S R) : LAct G M o T S R := by
  intro K w a N Q hi hr hn
  refine wpIn_of_wp (h K w a hi hr) fun a' w' hp => ?_
  obtain ⟨r, v, S', K', rfl, h2, h3, h4, h5⟩ := hp
  exact ⟨put_defers _ _ _, hn r v S' K' w' h2 h3 h4 h5⟩

/-- The strategy: the operations in an order, each one giving a value whatever comes behind, or turning the memory. -/
inductive LR (X : Nat → Prop) (G : Ctx) (M : Option Nat) (n : Nat) (ops : List Oper) : List Nat → ((Nat → TV) → LS → Prop) → Nat → (Nat → TV) → LS → Prop
  | nil {ord : List Nat} {Q : (Nat → TV) → LS → Prop} {p : Nat} {T : Nat → TV} {S : LS} (hp : p = ord.length) (hq : Q T S) : LR X G M n ops ord Q p T S
  | val {ord : List Nat} {Q : (Nat → TV) → LS → Prop} {p : Nat} {T : Nat → TV} {S : LS} {o : Oper} {r : TV} (ho : ops[getO ord p]? = some o) (hp : Nat.blt p ord.length = true) (h : ∀ S', S.leX X S' → LVal G o T S' r) (hg : wantedT ops.toArray T o = some true) (hd : dstOK n o.dst = true)
      (k : LR X G M n ops ord Q (p + 1) (putT T o.dst r) S) : LR X G M n ops ord Q p T S
  | skip {ord : List Nat} {Q : (Nat → TV) → LS → Prop} {p : Nat} {T : Nat → TV} {S : LS} {o : Oper} (ho : ops[getO ord p]? = some o) (hp : Nat.blt p ord.length = true) (hg : wantedT ops.toArray T o = some false) (hd : dstOK n o.dst = true)
      (k : LR X G M n ops ord Q (p + 1) (putT T o.dst (.tup [])) S) : LR X G M n ops ord Q p T S
  | when {ord : List Nat} {Q : (Nat → TV) → LS → Prop} {p : Nat} {T : Nat → TV} {S : LS} {o : Oper} {g : Bool} {r : TV} (ho : ops[getO ord p]? = some o) (hp : Nat.blt p ord.length = true) (h : ∀ S', S.leX X S' → g = true → LVal G o T S' r) (hg : wantedT ops.toArray T o = some g) (hd : dstOK n o.dst = true)
      (k : LR X G M n ops ord Q (p + 1) (putT T o.dst (.when g r)) S) : LR X G M n ops ord Q p T S
  | act {ord : List Nat} {Q : (Nat → TV) → LS → Prop} {p : Nat} {T : Nat → TV} {S : LS} {o : Oper} {R : TV → LS → Prop} (ho : ops[getO ord p]? = some o) (hp : Nat.blt p ord.length = true) (ha : laterAll ops ord p = true) (h : LAct G M o T S R) (hg : wantedT ops.toArray T o = some true) (hd : dstOK n o.dst = true)
      (hm : ∀ r S', R r S' → S.leX X S' ∨ earlierAll ops ord p = true) (k : ∀ r S', R r S' → LR X G M n ops ord Q (p + 1) (putT T o.dst r) S') : LR X G M n ops ord Q p T S
  | alt {ord : List Nat} {Q : (Nat → TV) → LS → Prop} {p : Nat} {T : Nat → TV} {S : LS} (ord2 : List Nat) {o1 o2 : Oper} {R1 R2 : TV → LS → Prop} (hp : Nat.blt p ord.length = true) (ha : altOK ops ord ord2 p = true) (e1 : ops[getO ord p]? = some o1) (e2 : ops[getO ord2 p]? = some o2)
      (h1 : LDo G o1 T S R1) (h2 : LDo G o2 T S R2) (g1 : wantedT ops.toArray T o1 = some true) (g2 : wantedT ops.toArray T o2 = some true) (d1 : dstOK n o1.dst = true) (d2 : dstOK n o2.dst = true) (m1 : ∀ r S', R1 r S' → S.leX X S') (m2 : ∀ r S', R2 r S' → S.leX X S')
      (k1 : ∀ r S', R1 r S' → LR X G M n ops ord Q (p + 1) (putT T o1.dst r) S') (k2 : ∀ r S', R2 r S' → LR X G M n ops ord2 Q (p + 1) (putT T o2.dst r) S') : LR X G M n ops ord Q p T S

def updR (r : Nat → TV) (j : Nat) (x : TV) : Nat → TV := fun i => if i = j then x else r i
theorem updR_same (r : Nat → TV) (j : Nat) (x : TV) : updR r j x j = x := by simp [updR]
theorem updR_ne (r : Nat → TV) {i j : Nat} (x : TV) (h : i ≠ j) : updR r j x i = r i := by simp [updR, h]

section
variable (X : Nat → Prop) (G : Ctx) (M : Option Nat) (n : Nat) (ops : List Oper) (ord : List Nat) (Q : (Nat → TV) → LS → Prop) (T0 : Nat → TV)

def Facts (r : Nat → TV) (p : Nat) (S : LS) (L : Nat → Bool) : Prop := ∀ q o, q < p → ops[getO ord q]? = some o → dstOK n o.dst = true ∧
  (L (getO ord q) = true ∨ (wantedT ops.toArray (pv ops ord T0 r (fun _ => true) q) o = some true ∧ ∀ S', S.leX X S' → LVal G o (pv ops ord T0 r (fun _ => true) q) S' (r (getO ord q))) ∨
    (wantedT ops.toArray (pv ops ord T0 r (fun _ => true) q) o = some false ∧ r (getO ord q) = .tup []) ∨
    ∃ g x, wantedT ops.toArray (pv ops ord T0 r (fun _ => true) q) o = some g ∧ (∀ S', S.leX X S' → g = true → LVal G o (pv ops ord T0 r (fun _ => true) q) S' x) ∧ r (getO ord q) = .when g x)

def Stop (p : Nat) (T : Nat → TV) (S : LS) : Prop := (p = ord.length ∧ Q T S) ∨
  (p < ord.length ∧ laterAll ops ord p = true ∧ ∃ o R, ops[getO ord p]? = some o ∧ LAct G M o T S R ∧ wantedT ops.toArray T o = some true ∧ dstOK n o.dst = true ∧
    (∀ r S', R r S' → S.leX X S' ∨ earlierAll ops ord p = true) ∧ ∀ r S', R r S' → LR X G M n ops ord Q (p + 1) (putT T o.dst r) S') ∨
  (p < ord.length ∧ ∃ ord2, AltOK ops ord ord2 p ∧ ∃ o1 o2 R1 R2, ops[getO ord p]? = some o1 ∧ ops[getO ord2 p]? = some o2 ∧ LDo G o1 T S R1 ∧ LDo G o2 T S R2 ∧ wantedT ops.toArray T o1 = some true ∧ wantedT ops.toArray T o2 = some true ∧ dstOK n o1.dst = true ∧ dstOK n o2.dst = true ∧
    (∀ r S', R1 r S' → S.leX X S') ∧ (∀ r S', R2 r S' → S.leX X S') ∧ (∀ r S', R1 r S' → LR X G M n ops ord Q (p + 1) (putT T o1.dst r) S') ∧ ∀ r S', R2 r S' → LR X G M n ops ord2 Q (p + 1) (putT T o2.dst r) S')

variable {X G M n ops ord Q T0}

theorem Facts.congr (hok : OrdOK ops ord) {r r' : Nat → TV} {p : Nat} {S : LS} {L : Nat → Bool} (hp : p ≤ ord.length) (h : Facts X G n ops ord T0 r p S L) (hr : ∀ q, q < p → r' (getO ord q) = r (getO ord q)) : Facts X G n ops ord T0 r' p S L := fun q o hq ho => by
  obtain ⟨h1, h2⟩ := h q o hq ho
  rw [pv_congr q fun q' hq' _ => hr q' (by omega), hr q hq]
  exact ⟨h1, h2⟩

theorem LR.advance (hok : OrdOK ops ord) {L : Nat → Bool} {p : Nat} {T : Nat → TV} {S : LS} (h : LR X G M n ops ord Q p T S) : ∀ r, p ≤ ord.length → T = pv ops ord T0 r (fun _ => true) p → Facts X G n ops ord T0 r p S L →
    ∃ p' r', p ≤ p' ∧ p' ≤ ord.length ∧ (∀ q, q < p → r' (getO ord q) = r (getO ord q)) ∧ Facts X G n ops ord T0 r' p' S L ∧ Stop X G M n ops ord Q p' (pv ops ord T0 r' (fun _ => true) p') S := by
  have ext : ∀ {p : Nat} {r : Nat → TV} (x : TV), p < ord.length → ∀ q, q < p → updR r (getO ord p) x (getO ord q) = r (getO ord q) := fun {p r} x hp q hq => updR_ne _ _ fun e => by
    have := hok.inj q p (by omega) hp e; omega
  induction h with
  | @nil ord Q p T S hp hq =>
    intro r hle hT hf
    exact ⟨p, r, Nat.le_refl _, hle, fun _ _ => rfl, hf, .inl ⟨hp, hT ▸ hq⟩⟩
  | @act ord Q p T S o R ho hp ha h hg hd hm k _ =>
    intro r hle hT hf
    subst hT
    exact ⟨p, r, Nat.le_refl _, hle, fun _ _ => rfl, hf, .inr (.inl ⟨by simpa [Nat.blt_eq] using hp, ha, o, R, ho, h, hg, hd, hm, k⟩)⟩
  | @alt ord Q p T S ord2 o1 o2 R1 R2 hp ha e1 e2 h1 h2 g1 g2 d1 d2 m1 m2 k1 k2 _ _ =>
    intro r hle hT hf
    subst hT
    exact ⟨p, r, Nat.le_refl _, hle, fun _ _ => rfl, hf, .inr (.inr ⟨by simpa [Nat.blt_eq] using hp, ord2, .of ha, o1, o2, R1, R2, e1, e2, h1, h2, g1, g2, d1, d2, m1, m2, k1, k2⟩)⟩
  | @val ord Q p T S o x ho hp h hg hd k ih =>
    intro r hle hT hf
    have hp : p < ord.length := by simpa [Nat.blt_eq] using hp
    have hpv : pv ops ord T0 (updR r (getO ord p) x) (fun _ => true) p = T := by rw [hT]; exact pv_congr p fun q hq _ => ext x hp q hq
    obtain ⟨p', r', h1, h2, h3, h4, h5⟩ := ih hok @ext (updR r (getO ord p) x) hp (by simp only [pv, cond_true, ho, Option.bind_some, updR_same, hpv]) (fun q o' hq ho' => by
      rcases Nat.lt_or_ge q p with hlt | hge
      · exact (hf.congr hok (Nat.le_of_lt hp) (ext x hp)) q o' hlt ho'
      · obtain rfl : q = p := by omega
        rw [ho] at ho'
        obtain rfl : o = o' := by simpa using ho'
        refine ⟨hd, .inr (.inl ⟨by rw [hpv]; exact hg, ?_⟩)⟩
        rw [hpv, updR_same]; exact h)
    exact ⟨p', r', by omega, h2, fun q hq => (h3 q (by omega)).trans (ext x hp q hq), h4, h5⟩
  | @when ord Q p T S o g x ho hp h hg hd k ih =>
    intro r hle hT hf
    have hp : p < ord.length := by simpa [Nat.blt_eq] using hp
    have hpv : pv ops ord T0 (updR r (getO ord p) (.when g x)) (fun _ => true) p = T := by rw [hT]; exact pv_congr p fun q hq _ => ext (.when g x) hp q hq
    obtain ⟨p', r', h1, h2, h3, h4, h5⟩ := ih hok @ext (updR r (getO ord p) (.when g x)) hp (by simp only [pv, cond_true, ho, Option.bind_some, updR_same, hpv]) (fun q o' hq ho' => by
      rcases Nat.lt_or_ge q p with hlt | hge
      · exact (hf.congr hok (Nat.le_of_lt hp) (ext (.when g x) hp)) q o' hlt ho'
      · obtain rfl : q = p := by omega
        rw [ho] at ho'
        obtain rfl : o = o' := by simpa using ho'
        refine ⟨hd, .inr (.inr (.inr ⟨g, x, by rw [hpv]; exact hg, ?_, updR_same _ _ _⟩))⟩
        rw [hpv]; exact h)
    exact ⟨p', r', by omega, h2, fun q hq => (h3 q (by omega)).trans (ext (.when g x) hp q hq), h4, h5⟩
  | @skip ord Q p T S o ho hp hg hd k ih =>
    intro r hle hT hf
    have hp : p < ord.length := by simpa [Nat.blt_eq] using hp
    have hpv : pv ops ord T0 (updR r (getO ord p) (.tup [])) (fun _ => true) p = T := by rw [hT]; exact pv_congr p fun q hq _ => ext (.tup []) hp q hq
    obtain ⟨p', r', h1, h2, h3, h4, h5⟩ := ih hok @ext (updR r (getO ord p) (.tup [])) hp (by simp only [pv, cond_true, ho, Option.bind_some, updR_same, hpv]) (fun q o' hq ho' => by
      rcases Nat.lt_or_ge q p with hlt | hge
      · exact (hf.congr hok (Nat.le_of_lt hp) (ext (.tup []) hp)) q o' hlt ho'
      · obtain rfl : q = p := by omega
        rw [ho] at ho'
        obtain rfl : o = o' := by simpa using ho'
        exact ⟨hd, .inr (.inr (.inl ⟨by rw [hpv]; exact hg, updR_same _ _ _⟩))⟩)
    exact ⟨p', r', by omega, h2, fun q hq => (h3 q (by omega)).trans (ext (.tup []) hp q hq), h4, h5⟩

theorem pv_same {ops : List Oper} {ord ord2 : List Nat} {T0 : Nat → TV} {r : Nat → TV} {L : Nat → Bool} : ∀ m, (∀ q, q < m → getO ord2 q = getO ord q) → pv ops ord2 T0 r L m = pv ops ord T0 r L m := by
  intro m
  induction m with
  | zero => intro _; rfl
  | succ m ih =>
    intro h
    simp only [pv]
    rw [ih fun q hq => h q (by omega), h m (by omega)]
theorem pv_tail {ops : List Oper} {ord : List Nat} {T0 : Nat → TV} {r : Nat → TV} {L : Nat → Bool} {p : Nat} : ∀ m, p ≤ m → (∀ q, p ≤ q → q < m → L (getO ord q) = false) → pv ops ord T0 r L m = pv ops ord T0 r L p := by
  intro m
  induction m with
  | zero => intro hp _; rw [Nat.le_zero.1 hp]
  | succ m ih =>
    intro hp h
    rcases Nat.lt_or_ge m p with hlt | hge
    · rw [show p = m + 1 by omega]
    · simp only [pv, h m hge (by omega), cond_false]
      exact ih hge fun q h1 h2 => h q h1 (by omega)

theorem wpAnyR {m : Nat} :
    ∀ (fuel : Nat) (ord : List Nat) (hok : OrdOK ops ord) (listed : Array Bool) (L : Nat → Bool) (a : Act) (w : World) (K : Kept) (p : Nat) (r : Nat → TV) (S : LS), listed.size = ops.length → (∀ i, i < ops.length → listed.getD i false = L i) → Closed ops L → left ops.length L ≤ fuel →
      p ≤ ord.length → Facts X G n ops ord T0 r p S L → (∀ q, q < ord.length → L (getO ord q) = true → q < p) → Stop X G M n ops ord Q p (pv ops ord T0 r (fun _ => true) p) S →
      Inv G S K w → RelT G w K n (pv ops ord T0 r L ord.length) a → Marks m w a.defers →
      wpAnyIn (fen M) 0 G.P .any ops.toArray (fun e a' w' => e = .normal ∧ Post G m n K w Q a' w') fuel listed a w := by
  have hend : ∀ (ord : List Nat) (hok : OrdOK ops ord) (listed : Array Bool) (L : Nat → Bool) (a : Act) (w : World) (K : Kept) (p : Nat) (r : Nat → TV) (S : LS), (∀ i, i < ops.length → L i = true) → (∀ q, q < ord.length → L (getO ord q) = true → q < p) → p ≤ ord.length →
      Stop X G M n ops ord Q p (pv ops ord T0 r (fun _ => true) p) S → Inv G S K w → RelT G w K n (pv ops ord T0 r L ord.length) a → Marks m w a.defers → Post G m n K w Q a w := by
    intro ord hok listed L a w K p r S hall hdone hp hst hi hr hf
    have hget : ∀ q, q < ord.length → getO ord q < ops.length → L (getO ord q) = true := fun q _ h => hall _ h
    rcases hst with ⟨rfl, hq⟩ | ⟨hlt, _⟩ | ⟨hlt, _⟩
    · have : ∀ m, m ≤ ord.length → pv ops ord T0 r L m = pv ops ord T0 r (fun _ => true) m := by
        intro m
        induction m with
        | zero => intro _; rfl
        | succ m ih => intro hm; simp only [pv, hget m (by omega) (hok.inn m (by omega)), ih (by omega)]
      rw [this _ (Nat.le_refl _)] at hr
      exact ⟨_, S, K, hi, hr, hf, .refl _ _, hq⟩
    · have := hdone p hlt (hget p hlt (hok.inn p hlt))
      omega
    · have := hdone p hlt (hget p hlt (hok.inn p hlt))
      omega
  intro fuel
  induction fuel with
  | zero =>
    intro ord hok listed L a w K p r S hsz hL hc hle hp hfacts hdone hst hi hr hf
    have hall : ∀ i, i < ops.length → L i = true := by
      intro i hi'
      have h0 : left ops.length L = 0 := by omega
      unfold left at h0
      rw [List.countP_eq_zero] at h0
      have := h0 i (List.mem_range.2 hi')
      simpa using this
    refine ⟨?_, rfl, hend ord hok listed L a w K p r S hall hdone hp hst hi hr hf⟩
    cases hrd : Region.ready .any ops.toArray listed with
    | nil => rfl
    | cons x xs =>
      have hm : x ∈ Region.ready .any ops.toArray listed := by rw [hrd]; simp
      rw [mem_ready] at hm
      obtain ⟨h1, o, ho, _⟩ := hm
      have hx : x < ops.length := by simpa using (Array.getElem?_eq_some_iff.1 ho).1
      have h2 := hL x hx
      rw [hall x hx] at h2
      rw [Array.getD_eq_getD_getElem?] at h1 h2
      cases hq : listed[x]? with
      | none => rw [hq] at h2; simp at h2
      | some b => rw [hq] at h1 h2; simp at h1 h2; rw [h1] at h2; cases h2
  | succ fuel ih =>
    intro ord hok listed L a w K p r S hsz hL hc hle hp hfacts hdone hst hi hr hf
    have hgd : ∀ x, x < ops.length → listed.getD x true = L x := by
      intro x hx
      rw [← hL x hx, Array.getD_eq_getD_getElem?, Array.getD_eq_getD_getElem?, Array.getElem?_eq_getElem (by omega)]; rfl
    have hB : ∀ (ord : List Nat) (hok : OrdOK ops ord) (q : Nat) (r : Nat → TV) (y : Oper), q < ord.length → Facts X G n ops ord T0 r q S L → (∀ q', q' < ord.length → L (getO ord q') = true → q' < q) → RelT G w K n (pv ops ord T0 r L ord.length) a → ops.toArray[getO ord q]? = some y →
        L (getO ord q) = false → (∀ e ∈ y.after, Region.binds .any e = true → L e.on = true) → ∀ (R : TV → LS → Prop), LAct G M y (pv ops ord T0 r (fun _ => true) q) S R → wantedT ops.toArray (pv ops ord T0 r (fun _ => true) q) y = some true → dstOK n y.dst = true →
        (∀ r S', R r S' → S.leX X S' ∨ earlierAll ops ord q = true) → (∀ r0 S', R r0 S' → LR X G M n ops ord Q (q + 1) (putT (pv ops ord T0 r (fun _ => true) q) y.dst r0) S') →
        wpOpIn (fen M) 0 G.P ops.toArray (fun e a' w' => e = .normal ∧ Post G m n K w Q a' w') (getO ord q) (wpAnyIn (fen M) 0 G.P .any ops.toArray (fun e a' w' => e = .normal ∧ Post G m n K w Q a' w') fuel (listed.setIfInBounds (getO ord q) true)) a w := by
        intro ord hok q r y hq hfacts hdone hr hy hLj hdep' R hdo hw hd hm hk
        have hy' : ops[getO ord q]? = some y := by simpa using hy
        have hjl : getO ord q < ops.length := (List.getElem?_eq_some_iff.1 hy').1
        have hbef : ∀ k, ((befores ops []).getD (getO ord q) 0).testBit k = true → L k = true := fun k hk => by
          obtain ⟨e, he, hb, h⟩ := before_dep' hok.edges hy' hk
          rcases h with rfl | h
          · exact hdep' e he hb
          · exact hc.out _ (hdep' e he hb) _ h
        have hseen : ∀ t ∈ looks ops y, pv ops ord T0 r L ord.length t = pv ops ord T0 r (fun _ => true) q t := fun t ht => by
          have := pv_seen hok hc (T0 := T0) (r := r) hq hy' hLj hdep' (.inl ht) ord.length (Nat.le_refl _)
          rw [Nat.min_eq_right (by omega)] at this
          exact this
        have hput : ∀ r, putT (pv ops ord T0 r L ord.length) y.dst (r (getO ord q)) = pv ops ord T0 r (withJ L (getO ord q)) ord.length := by
          intro r
          funext t
          rw [pv_put hok hc (T0 := T0) (r := r) hq hy' hLj t ord.length (Nat.le_refl _), if_pos hq]
        have hcl : Closed ops (withJ L (getO ord q)) := ⟨fun i hLi k hk => by
          have hsub : ∀ k, L k = true → withJ L (getO ord q) k = true := fun k h => by
            by_cases e : k = getO ord q
            · rw [e]; exact withJ_same _ _
            · rw [withJ_ne L e]; exact h
          by_cases e : i = getO ord q
          · rw [e] at hk
            exact hsub _ (hbef k hk)
          · rw [withJ_ne L e] at hLi
            exact hsub _ (hc.out i hLi k hk)⟩
        have hlst : ∀ i, i < ops.length → (listed.setIfInBounds (getO ord q) true).getD i false = withJ L (getO ord q) i := fun i hi' => by
          by_cases e : i = getO ord q
          · rw [e, withJ_same, Array.getD_eq_getD_getElem?]
            simp [hsz, hjl]
          · rw [withJ_ne L e, getD_set_ne false (Ne.symm e)]
            exact hL i hi'
        have hleft := left_with hjl hLj
        have hmonoL : ∀ k, L k = true → withJ L (getO ord q) k = true := fun k h => by
          by_cases e : k = getO ord q
          · rw [e]; exact withJ_same _ _
          · rw [withJ_ne L e]; exact h
        unfold wpOpIn
        rw [hy]
        simp only
        rw [← wantedT_congr hseen] at hw
        rw [if_pos (wanted_of hr hw)]
        have hdo' : LAct G M y (pv ops ord T0 r L ord.length) S R := fun K w a N Q hi hr hn => hdo K w a N Q hi (fun x hx => by rw [← lev_congr hseen x hx]; exact hr x hx) hn
        refine hdo' K w a _ _ hi (fun x _ => hr.eval x) fun r0 v S' K' w' h2 h3 h4 h5 => ?_
        have hne : ∀ q', q' < q → getO ord q' ≠ getO ord q := fun q' hq' e => by have := hok.inj q' q (by omega) hq e; omega
        have hpv : ∀ m, m ≤ q → pv ops ord T0 (updR r (getO ord q) r0) (fun _ => true) m = pv ops ord T0 r (fun _ => true) m := fun m hm => pv_congr m fun q' hq' _ => updR_ne _ _ (hne q' (by omega))
        have hf1 : Facts X G n ops ord T0 (updR r (getO ord q) r0) (q + 1) S' (withJ L (getO ord q)) := fun q' o' hq' ho' => by
          rcases Nat.lt_or_ge q' q with hlt | hge
          · obtain ⟨f1, f2⟩ := hfacts q' o' hlt ho'
            refine ⟨f1, ?_⟩
            rcases hm r0 S' h5 with hle2 | hea
            · rw [hpv q' (by omega), updR_ne _ _ (hne q' hlt)]
              rcases f2 with f2 | ⟨f2, f3⟩ | f2 | ⟨g, x, f2, f3, f4⟩
              · exact .inl (hmonoL _ f2)
              · exact .inr (.inl ⟨f2, fun S2 h2 => f3 S2 (hle2.trans h2)⟩)
              · exact .inr (.inr (.inl f2))
              · exact .inr (.inr (.inr ⟨g, x, f2, fun S2 h2 => f3 S2 (hle2.trans h2), f4⟩))
            · refine .inl (hmonoL _ (hbef _ ?_))
              simp only [earlierAll, List.all_eq_true] at hea
              exact hea q' (List.mem_range.2 hlt)
          · obtain rfl : q' = q := by omega
            rw [hy'] at ho'
            obtain rfl : y = o' := by simpa using ho'
            exact ⟨hd, .inl (withJ_same _ _)⟩
        obtain ⟨p', r', g1, g2, g3, g4, g5⟩ := (hk r0 S' h5).advance hok (updR r (getO ord q) r0) hq (by simp only [pv, cond_true, hy', Option.bind_some, updR_same, hpv q (Nat.le_refl _)]) hf1
        have hdone' : ∀ q', q' < ord.length → withJ L (getO ord q) (getO ord q') = true → q' < p' := fun q' hq' h => by
          by_cases e : getO ord q' = getO ord q
          · rw [hok.inj q' q hq' hq e]; omega
          · rw [withJ_ne L e] at h; have := hdone q' hq' h; omega
        have hrr : pv ops ord T0 r' (withJ L (getO ord q)) ord.length = putT (pv ops ord T0 r L ord.length) y.dst r0 := by
          have e1 : pv ops ord T0 r' (withJ L (getO ord q)) ord.length = pv ops ord T0 (updR r (getO ord q) r0) (withJ L (getO ord q)) ord.length := pv_congr _ fun q' hq' hL' => by
            by_cases e : getO ord q' = getO ord q
            · rw [hok.inj q' q hq' hq e]; exact g3 q (by omega)
            · rw [withJ_ne L e] at hL'; exact g3 q' (by have := hdone q' hq' hL'; omega)
          rw [e1, ← hput, updR_same]
          congr 1
          exact pv_congr _ fun q' hq' hL' => updR_ne _ _ (hne q' (hdone q' hq' hL'))
        have := ih ord hok (listed.setIfInBounds (getO ord q) true) (withJ L (getO ord q)) (a.put y.dst v) w' K' p' r' S' (by simp [hsz]) hlst hcl (by omega) g2 g4 hdone' g5 h3 (by rw [hrr]; exact (hr.mono h4).put hd h2) (by rw [put_defers]; exact hf.mono h4)
        exact wpAnyIn_mono' (fun e a w ⟨he, hp⟩ => ⟨he, hp.trans h4⟩) _ _ _ _ this
    refine ⟨fun hnil => ⟨rfl, ?_⟩, fun j hj => ?_⟩
    · have hall : ∀ i, i < ops.length → L i = true := by
        intro i
        induction i using Nat.strongRecOn with
        | _ i ihi =>
          intro hi'
          cases hLi : L i with
          | true => rfl
          | false =>
            have : i ∈ Region.ready .any ops.toArray listed := by
              rw [mem_ready]
              refine ⟨by rw [hgd i hi', hLi], ops[i], by simp [hi'], fun e he hb => ?_⟩
              have hlt := edges_on hok.edges (List.getElem?_eq_getElem hi') e he hb
              rw [hL e.on (by omega)]
              exact ihi e.on hlt (by omega)
            rw [hnil] at this; simp at this
      exact hend ord hok listed L a w K p r S hall hdone hp hst hi hr hf
    · rw [mem_ready] at hj
      obtain ⟨h1, y, hy, hdep⟩ := hj
      have hy' : ops[j]? = some y := by simpa using hy
      have hjl : j < ops.length := (List.getElem?_eq_some_iff.1 hy').1
      have hLj : L j = false := by rw [← hgd j hjl]; exact h1
      have hdep' : ∀ e ∈ y.after, Region.binds .any e = true → L e.on = true := fun e he hb => by
        have := hdep e he hb
        rw [hL e.on (by have := edges_on hok.edges hy' e he hb; omega)] at this
        exact this
      have hbef : ∀ k, ((befores ops []).getD j 0).testBit k = true → L k = true := fun k hk => by
        obtain ⟨e, he, hb, h⟩ := before_dep' hok.edges hy' hk
        rcases h with rfl | h
        · exact hdep' e he hb
        · exact hc.out _ (hdep' e he hb) _ h
      obtain ⟨q, hq, rfl⟩ := hok.all j hjl
      have hseen : ∀ t ∈ looks ops y, pv ops ord T0 r L ord.length t = pv ops ord T0 r (fun _ => true) q t := fun t ht => by
        have := pv_seen hok hc (T0 := T0) (r := r) hq hy' hLj hdep' (.inl ht) ord.length (Nat.le_refl _)
        rw [Nat.min_eq_right (by omega)] at this
        exact this
      have hput : ∀ r, putT (pv ops ord T0 r L ord.length) y.dst (r (getO ord q)) = pv ops ord T0 r (withJ L (getO ord q)) ord.length := by
        intro r
        funext t
        rw [pv_put hok hc (T0 := T0) (r := r) hq hy' hLj t ord.length (Nat.le_refl _), if_pos hq]
      have hcl : Closed ops (withJ L (getO ord q)) := ⟨fun i hLi k hk => by
        have hsub : ∀ k, L k = true → withJ L (getO ord q) k = true := fun k h => by
          by_cases e : k = getO ord q
          · rw [e]; exact withJ_same _ _
          · rw [withJ_ne L e]; exact h
        by_cases e : i = getO ord q
        · rw [e] at hk
          exact hsub _ (hbef k hk)
        · rw [withJ_ne L e] at hLi
          exact hsub _ (hc.out i hLi k hk)⟩
      have hlst : ∀ i, i < ops.length → (listed.setIfInBounds (getO ord q) true).getD i false = withJ L (getO ord q) i := fun i hi' => by
        by_cases e : i = getO ord q
        · rw [e, withJ_same, Array.getD_eq_getD_getElem?]
          simp [hsz, hjl]
        · rw [withJ_ne L e, getD_set_ne false (Ne.symm e)]
          exact hL i hi'
      have hleft := left_with hjl hLj
      have hmonoL : ∀ k, L k = true → withJ L (getO ord q) k = true := fun k h => by
        by_cases e : k = getO ord q
        · rw [e]; exact withJ_same _ _
        · rw [withJ_ne L e]; exact h
      rcases Nat.lt_trichotomy q p with hlt | rfl | hgt
      · -- an operation that only reads
        obtain ⟨hd, hcase⟩ := hfacts q y hlt hy'
        have hfacts' : Facts X G n ops ord T0 r p S (withJ L (getO ord q)) := fun q' o' hq' ho' => by
          obtain ⟨f1, f2⟩ := hfacts q' o' hq' ho'
          exact ⟨f1, f2.imp (hmonoL _) id⟩
        have hdone' : ∀ q', q' < ord.length → withJ L (getO ord q) (getO ord q') = true → q' < p := fun q' hq' h => by
          by_cases e : getO ord q' = getO ord q
          · rw [hok.inj q' q hq' hq e]; exact hlt
          · rw [withJ_ne L e] at h; exact hdone q' hq' h
        unfold wpOpIn
        rw [hy]
        simp only
        rcases hcase with hdn | ⟨hw, hv⟩ | ⟨hw, hany⟩ | ⟨g, x, hw, hv, hrx⟩
        · rw [hLj] at hdn; cases hdn
        · rw [← wantedT_congr hseen] at hw
          rw [if_pos (wanted_of hr hw)]
          have hv' := (hv S (.refl S)).congr (fun x hx => (lev_congr hseen x hx).symm)
          refine wpIn_of_wp (hv' K w a hi fun x _ => hr.eval x) fun a' w' hp' => ?_
          obtain ⟨v, K', rfl, h2, h3, h4⟩ := hp'
          refine ⟨put_defers _ _ _, ?_⟩
          have := ih ord hok (listed.setIfInBounds (getO ord q) true) (withJ L (getO ord q)) (a.put y.dst v) w' K' p r S (by simp [hsz]) hlst hcl (by omega) hp hfacts' hdone' hst h3 (by rw [← hput]; exact (hr.mono h4).put hd h2) (by rw [put_defers]; exact hf.mono h4)
          exact wpAnyIn_mono' (fun e a w ⟨he, hp⟩ => ⟨he, hp.trans h4⟩) _ _ _ _ this
        · rw [← wantedT_congr hseen] at hw
          rw [if_neg (by rw [wanted_of hr hw]; simp)]
          refine ⟨fun f _ => fen_fn M f, ?_⟩
          exact ih ord hok (listed.setIfInBounds (getO ord q) true) (withJ L (getO ord q)) (a.put y.dst undef) w K p r S (by simp [hsz]) hlst hcl (by omega) hp hfacts' hdone' hst hi (by rw [← hput]; exact hr.put hd (by rw [hany]; exact .tup [] #[] rfl (by simp))) (by rw [put_defers]; exact hf)
        · rw [← wantedT_congr hseen] at hw
          cases g with
          | true =>
            rw [if_pos (wanted_of hr hw)]
            have hv' := (hv S (.refl S) rfl).congr (fun x hx => (lev_congr hseen x hx).symm)
            refine wpIn_of_wp (hv' K w a hi fun x _ => hr.eval x) fun a' w' hp' => ?_
            obtain ⟨v, K', rfl, h2, h3, h4⟩ := hp'
            refine ⟨put_defers _ _ _, ?_⟩
            have h2' : RepT G w' K' (r (getO ord q)) v := by rw [hrx]; exact .when true x v (fun _ => h2) (by simp)
            have := ih ord hok (listed.setIfInBounds (getO ord q) true) (withJ L (getO ord q)) (a.put y.dst v) w' K' p r S (by simp [hsz]) hlst hcl (by omega) hp hfacts' hdone' hst h3 (by rw [← hput]; exact (hr.mono h4).put hd h2') (by rw [put_defers]; exact hf.mono h4)
            exact wpAnyIn_mono' (fun e a w ⟨he, hp⟩ => ⟨he, hp.trans h4⟩) _ _ _ _ this
          | false =>
            rw [if_neg (by rw [wanted_of hr hw]; simp)]
            refine ⟨fun f _ => fen_fn M f, ?_⟩
            exact ih ord hok (listed.setIfInBounds (getO ord q) true) (withJ L (getO ord q)) (a.put y.dst undef) w K p r S (by simp [hsz]) hlst hcl (by omega) hp hfacts' hdone' hst hi (by rw [← hput]; exact hr.put hd (by rw [hrx]; exact .when false x _ (by simp) (fun _ => rfl))) (by rw [put_defers]; exact hf)
      · -- the next operation that turns the memory
        rcases hst with ⟨e, _⟩ | ⟨_, _, o, R, ho, hdo, hw, hd, hm, hk⟩ | ⟨_, ord2, ha, o, _, R, _, ho, _, hdo, _, hw, _, hd, _, hm, _, hk, _⟩
        · omega
        · rw [hy'] at ho
          obtain rfl : y = o := by simpa using ho
          exact hB ord hok q r y hq hfacts hdone hr hy hLj hdep' R hdo hw hd hm hk
        · rw [hy'] at ho
          obtain rfl : y = o := by simpa using ho
          exact hB ord hok q r y hq hfacts hdone hr hy hLj hdep' R hdo.toAct hw hd (fun r S' h => .inl (hm r S' h)) hk
      · -- what hangs on it cannot be ahead of it
        rcases hst with ⟨e, _⟩ | ⟨hlt, hla, _⟩ | ⟨hlt, ord2, ha, o1, o2, R1, R2, e1, e2, h1', h2', g1, g2, d1, d2, m1, m2, k1, k2⟩
        · omega
        · simp only [laterAll, List.all_eq_true] at hla
          have h2 := hla q (List.mem_range.2 hq)
          rw [Bool.or_eq_true] at h2
          rcases h2 with h2 | h2
          · have hb : Nat.blt p q = true := by rw [Nat.blt_eq]; exact hgt
            rw [hb] at h2; cases h2
          · have := hdone p hlt (hbef _ h2); omega
        · have hpf : L (getO ord p) = false := by
            cases h : L (getO ord p) with
            | false => rfl
            | true => have := hdone p hlt h; omega
          have hp1f : L (getO ord (p + 1)) = false := by
            cases h : L (getO ord (p + 1)) with
            | false => rfl
            | true => have := hdone (p + 1) ha.hp h; omega
          rcases Nat.lt_or_ge (p + 1) q with h2 | h2
          · rcases ha.cov q h2 hq with h3 | h3
            · have := hbef _ h3; rw [hpf] at this; cases this
            · have := hbef _ h3; rw [ha.s1, hp1f] at this; cases this
          · obtain rfl : q = p + 1 := by omega
            have hlen : ord2.length = ord.length := by rw [ha.hok.len, hok.len]
            have hsame : ∀ q, q < p → getO ord2 q = getO ord q := fun q hq => ha.same q (by omega) (by omega) (by omega)
            have hlf : ∀ q, p ≤ q → q < ord.length → L (getO ord q) = false := fun q h1 h2 => by
              cases h : L (getO ord q) with
              | false => rfl
              | true => have := hdone q h2 h; omega
            have hlf2 : ∀ q, p ≤ q → q < ord2.length → L (getO ord2 q) = false := fun q h1 h2 => by
              rcases (by omega : q = p ∨ q = p + 1 ∨ (q ≠ p ∧ q ≠ p + 1)) with rfl | rfl | ⟨n1, n2⟩
              · rw [ha.s1]; exact hp1f
              · rw [ha.s2]; exact hpf
              · rw [ha.same q (by omega) n1 n2]; exact hlf q h1 (by omega)
            rw [← ha.s1]
            rw [← ha.s1] at hy hLj
            have hy2 : ops[getO ord2 p]? = some y := by simpa using hy
            rw [hy2] at e2
            obtain rfl : y = o2 := by simpa using e2
            have hpv2 : ∀ m, m ≤ p → pv ops ord2 T0 r (fun _ => true) m = pv ops ord T0 r (fun _ => true) m := fun m hm => pv_same m fun q hq => hsame q (by omega)
            refine hB ord2 ha.hok p r y (by omega) (fun q' o' hq' ho' => ?_) (fun q' hq' hL' => ?_) ?_ hy hLj hdep' R2 ?_ ?_ d2 (fun r S' h => .inl (m2 r S' h)) ?_
            · rw [hsame q' hq'] at ho' ⊢
              rw [hpv2 q' (by omega)]
              exact hfacts q' o' hq' ho'
            · rcases Nat.lt_or_ge q' p with h | h
              · exact h
              · rw [hlf2 q' h hq'] at hL'; cases hL'
            · rw [pv_tail _ (by omega) hlf2, pv_same p hsame, ← pv_tail ord.length (by omega) hlf]
              exact hr
            · rw [hpv2 p (Nat.le_refl _)]; exact h2'.toAct
            · rw [hpv2 p (Nat.le_refl _)]; exact g2
            · rw [hpv2 p (Nat.le_refl _)]; exact k2

end

/-- A region whose order is drawn, in an order of our own. -/
theorem LWp.drawR {X : Nat → Prop} {G : Ctx} {M : Option Nat} {n : Nat} {id : Nat} {Q : Exit → (Nat → TV) → LS → Prop} {T : Nat → TV} {S : LS} {ops : List Oper} (ord : List Nat) (hm : G.P.follows .mixedOrders = true) (hok : ordOK ops ord = true)
    (h : LR X G M n ops ord (Q .normal) 0 T S) : LWp G M n (.region id ops.toArray true) Q T S := by
  intro m K w a hi hr hf
  have hok := OrdOK.of hok
  refine wpIn_region_any hm ?_
  obtain ⟨p', r', g1, g2, g3, g4, g5⟩ := h.advance (T0 := T) (L := fun _ => false) hok (fun _ => .any) (Nat.zero_le _) rfl (fun q o hq _ => by omega)
  have hnone : ∀ m, pv ops ord T r' (fun _ => false) m = T := fun m => by
    induction m with
    | zero => rfl
    | succ m ih => simpa [pv] using ih
  have := wpAnyR (G := G) (M := M) (m := m) (n := n) (ops := ops) (T0 := T) ops.length ord hok (Array.replicate ops.length false) (fun _ => false) a w.drew K p' r' S (by simp) (fun i hi' => by simp [Array.getD_eq_getD_getElem?, hi']) ⟨fun i h => by cases h⟩
      (by unfold left; exact Nat.le_trans List.countP_le_length (by simp)) g2 g4 (fun q _ h => by cases h) g5 hi.drew (by rw [hnone]; exact hr.mono (.drew K w)) (hf.mono (.drew K w))
  have h2 := wpAnyIn_mono' (Q' := fun e a' w' => Post G m n K w (Q e) a' w') (fun e a' w' ⟨he, hp⟩ => by
    subst he
    exact hp.trans (.drew K w)) _ _ _ _ this
  simpa using h2

/-- The operations in an order. -/
def pick (ops : List Oper) : List Nat → List Oper
  | [] => []
  | i :: is => match ops[i]? with
    | some o => o :: pick ops is
    | none => []

/-- The strategy, over the list of the operations that are left. -/
inductive LRl (X : Nat → Prop) (G : Ctx) (M : Option Nat) (n : Nat) (ops : List Oper) : List Nat → ((Nat → TV) → LS → Prop) → List Oper → Nat → (Nat → TV) → LS → Prop
  | nil {ord : List Nat} {Q : (Nat → TV) → LS → Prop} {p : Nat} {T : Nat → TV} {S : LS} (hq : Q T S) : LRl X G M n ops ord Q [] p T S
  | val {ord : List Nat} {Q : (Nat → TV) → LS → Prop} {l : List Oper} {p : Nat} {T : Nat → TV} {S : LS} {o : Oper} {r : TV} {d : Nat} (h : ∀ S', S.leX X S' → LVal G o T S' r) (hg : wantedT ops.toArray T o = some true) (hd : o.dst = some d) (hn : Nat.blt d n = true)
      (k : LRl X G M n ops ord Q l (p + 1) (upd T d r) S) : LRl X G M n ops ord Q (o :: l) p T S
  | skip {ord : List Nat} {Q : (Nat → TV) → LS → Prop} {l : List Oper} {p : Nat} {T : Nat → TV} {S : LS} {o : Oper} {d : Nat} (hg : wantedT ops.toArray T o = some false) (hd : o.dst = some d) (hn : Nat.blt d n = true)
      (k : LRl X G M n ops ord Q l (p + 1) (upd T d (.tup [])) S) : LRl X G M n ops ord Q (o :: l) p T S
  | when {ord : List Nat} {Q : (Nat → TV) → LS → Prop} {l : List Oper} {p : Nat} {T : Nat → TV} {S : LS} {o : Oper} {g : Bool} {r : TV} {d : Nat} (hg : wantedT ops.toArray T o = some g) (h : ∀ S', S.leX X S' → g = true → LVal G o T S' r) (hd : o.dst = some d) (hn : Nat.blt d n = true)
      (k : LRl X G M n ops ord Q l (p + 1) (upd T d (.when g r)) S) : LRl X G M n ops ord Q (o :: l) p T S
  | actA {ord : List Nat} {Q : (Nat → TV) → LS → Prop} {l : List Oper} {p : Nat} {T : Nat → TV} {S : LS} {o : Oper} {R : TV → LS → Prop} {d : Nat} (h : LAct G M o T S R) (ha : laterAll ops ord p = true) (hg : wantedT ops.toArray T o = some true) (hd : o.dst = some d) (hn : Nat.blt d n = true)
      (hm : ∀ r S', R r S' → S.leX X S' ∨ earlierAll ops ord p = true) (k : ∀ r S', R r S' → LRl X G M n ops ord Q l (p + 1) (upd T d r) S') : LRl X G M n ops ord Q (o :: l) p T S
  | actA0 {ord : List Nat} {Q : (Nat → TV) → LS → Prop} {l : List Oper} {p : Nat} {T : Nat → TV} {S : LS} {o : Oper} {R : TV → LS → Prop} (h : LAct G M o T S R) (ha : laterAll ops ord p = true) (hg : wantedT ops.toArray T o = some true) (hd : o.dst = none)
      (hm : ∀ r S', R r S' → S.leX X S' ∨ earlierAll ops ord p = true) (k : ∀ r S', R r S' → LRl X G M n ops ord Q l (p + 1) T S') : LRl X G M n ops ord Q (o :: l) p T S
  | alt {ord : List Nat} {Q : (Nat → TV) → LS → Prop} {l : List Oper} {p : Nat} {T : Nat → TV} {S : LS} (ord2 : List Nat) {o1 o2 : Oper} {R1 R2 : TV → LS → Prop} {d1 d2 : Nat} (ha : altOK ops ord ord2 p = true) (h1 : LDo G o1 T S R1) (h2 : LDo G o2 T S R2) (g1 : wantedT ops.toArray T o1 = some true) (g2 : wantedT ops.toArray T o2 = some true)
      (e1 : o1.dst = some d1) (e2 : o2.dst = some d2) (n1 : Nat.blt d1 n = true) (n2 : Nat.blt d2 n = true) (m1 : ∀ r S', R1 r S' → S.leX X S') (m2 : ∀ r S', R2 r S' → S.leX X S') (k1 : ∀ r S', R1 r S' → LRl X G M n ops ord Q (o2 :: l) (p + 1) (upd T d1 r) S')
      (k2 : ∀ r S', R2 r S' → LRl X G M n ops ord2 Q (o1 :: l) (p + 1) (upd T d2 r) S') : LRl X G M n ops ord Q (o1 :: o2 :: l) p T S

theorem LRl.act {X : Nat → Prop} {G : Ctx} {M : Option Nat} {n : Nat} {ops : List Oper} {ord : List Nat} {Q : (Nat → TV) → LS → Prop} {l : List Oper} {p : Nat} {T : Nat → TV} {S : LS} {o : Oper} {R : TV → LS → Prop} {d : Nat} (h : LDo G o T S R) (ha : laterAll ops ord p = true) (hg : wantedT ops.toArray T o = some true) (hd : o.dst = some d) (hn : Nat.blt d n = true)
      (hm : ∀ r S', R r S' → S.leX X S' ∨ earlierAll ops ord p = true) (k : ∀ r S', R r S' → LRl X G M n ops ord Q l (p + 1) (upd T d r) S') : LRl X G M n ops ord Q (o :: l) p T S := .actA h.toAct ha hg hd hn hm k
theorem LRl.act0 {X : Nat → Prop} {G : Ctx} {M : Option Nat} {n : Nat} {ops : List Oper} {ord : List Nat} {Q : (Nat → TV) → LS → Prop} {l : List Oper} {p : Nat} {T : Nat → TV} {S : LS} {o : Oper} {R : TV → LS → Prop} (h : LDo G o T S R) (ha : laterAll ops ord p = true) (hg : wantedT ops.toArray T o = some true) (hd : o.dst = none)
      (hm : ∀ r S', R r S' → S.leX X S' ∨ earlierAll ops ord p = true) (k : ∀ r S', R r S' → LRl X G M n ops ord Q l (p + 1) T S') : LRl X G M n ops ord Q (o :: l) p T S := .actA0 h.toAct ha hg hd hm k

theorem pick_get {ops : List Oper} : ∀ {ord : List Nat} {k : Nat} {o : Oper}, (pick ops ord)[k]? = some o → ops[getO ord k]? = some o := by
  intro ord
  induction ord with
  | nil => intro k o h; simp [pick] at h
  | cons i is ih =>
    intro k o h
    unfold pick at h
    cases hi : ops[i]? with
    | none => rw [hi] at h; simp at h
    | some x =>
      rw [hi] at h
      cases k with
      | zero => simpa [getO, hi] using h
      | succ k => exact ih (k := k) (by simpa using h)

theorem pick_length {ops : List Oper} : ∀ {ord : List Nat}, (∀ i ∈ ord, i < ops.length) → (pick ops ord).length = ord.length := by
  intro ord
  induction ord with
  | nil => intro _; rfl
  | cons i is ih =>
    intro h
    unfold pick
    rw [List.getElem?_eq_getElem (h i (by simp))]
    simp [ih fun j hj => h j (List.mem_cons_of_mem _ hj)]

theorem LRl.toLR {X : Nat → Prop} {G : Ctx} {M : Option Nat} {n : Nat} {ops : List Oper} {ord : List Nat} {Q : (Nat → TV) → LS → Prop} {l : List Oper} {p : Nat} {T : Nat → TV} {S : LS} (h : LRl X G M n ops ord Q l p T S) :
    (∀ k o, l[k]? = some o → ops[getO ord (p + k)]? = some o) → p + l.length = ord.length → LR X G M n ops ord Q p T S := by
  have nx : ∀ {ord : List Nat} {l : List Oper} {p : Nat} {o : Oper}, (∀ k o', (o :: l)[k]? = some o' → ops[getO ord (p + k)]? = some o') → ∀ k o', l[k]? = some o' → ops[getO ord (p + 1 + k)]? = some o' := fun {ord l p o} h k o' hk => by
    have := h (k + 1) o' (by simpa using hk)
    rwa [show p + (k + 1) = p + 1 + k by omega] at this
  induction h with
  | nil hq => intro _ h2; exact .nil (by simpa using h2) hq
  | val h hg hd hn k ih =>
    intro h1 h2
    refine .val (h1 0 _ rfl) (by rw [Nat.blt_eq]; simp at h2; omega) h hg (by rw [hd]; exact hn) ?_
    rw [hd]
    exact ih (nx h1) (by simp at h2; omega)
  | skip hg hd hn k ih =>
    intro h1 h2
    refine .skip (h1 0 _ rfl) (by rw [Nat.blt_eq]; simp at h2; omega) hg (by rw [hd]; exact hn) ?_
    rw [hd]
    exact ih (nx h1) (by simp at h2; omega)
  | when hg h hd hn k ih =>
    intro h1 h2
    refine .when (h1 0 _ rfl) (by rw [Nat.blt_eq]; simp at h2; omega) h hg (by rw [hd]; exact hn) ?_
    rw [hd]
    exact ih (nx h1) (by simp at h2; omega)
  | actA h ha hg hd hn hm k ih =>
    intro h1 h2
    refine .act (h1 0 _ rfl) (by rw [Nat.blt_eq]; simp at h2; omega) ha h hg (by rw [hd]; exact hn) hm fun r S' hr => ?_
    rw [hd]
    exact ih r S' hr (nx h1) (by simp at h2; omega)
  | actA0 h ha hg hd hm k ih =>
    intro h1 h2
    refine .act (h1 0 _ rfl) (by rw [Nat.blt_eq]; simp at h2; omega) ha h hg (by rw [hd]; rfl) hm fun r S' hr => ?_
    rw [hd]
    exact ih r S' hr (nx h1) (by simp at h2; omega)
  | @alt ord Q l p T S ord2 o1 o2 R1 R2 d1 d2 ha h1 h2 g1 g2 e1 e2 n1 n2 m1 m2 k1 k2 ih1 ih2 =>
    intro hh hl
    have hA := AltOK.of ha
    have x1 := hh 0 _ rfl
    have x2 := hh 1 _ rfl
    rw [Nat.add_zero] at x1
    refine .alt ord2 (by rw [Nat.blt_eq]; simp at hl; omega) ha x1 (by rw [hA.s1]; exact x2) h1 h2 g1 g2 (by rw [e1]; exact n1) (by rw [e2]; exact n2) m1 m2 (fun r S' hr => ?_) (fun r S' hr => ?_)
    · rw [e1]
      exact ih1 r S' hr (nx hh) (by simp at hl ⊢; omega)
    · rw [e2]
      refine ih2 r S' hr (fun k o hk => ?_) (by rw [hA.len]; simp at hl ⊢; omega)
      cases k with
      | zero =>
        obtain rfl : o1 = o := by simpa using hk
        rw [Nat.add_zero, hA.s2]; exact x1
      | succ k =>
        have := hh (k + 2) o (by simpa using hk)
        have hlt : k < l.length := by
          have hk2 : l[k]? = some o := by simpa using hk
          exact (List.getElem?_eq_some_iff.1 hk2).1
        rw [hA.same _ (by simp at hl; omega) (by omega) (by omega), show p + 1 + (k + 1) = p + (k + 2) by omega]
        exact this

theorem LWp.drawX (X : Nat → Prop) {G : Ctx} {M : Option Nat} {n : Nat} {id : Nat} {Q : Exit → (Nat → TV) → LS → Prop} {T : Nat → TV} {S : LS} {ops : List Oper} (ord : List Nat) (hm : G.P.follows .mixedOrders = true) (hok : ordOK ops ord = true)
    (h : LRl X G M n ops ord (Q .normal) (pick ops ord) 0 T S) : LWp G M n (.region id ops.toArray true) Q T S := by
  have ho := OrdOK.of hok
  refine .drawR ord hm hok (h.toLR (fun k o hk => by rw [Nat.zero_add]; exact pick_get hk) ?_)
  rw [Nat.zero_add]
  refine pick_length fun i hi => ?_
  obtain ⟨q, hq, rfl⟩ := List.mem_iff_getElem.1 hi
  have := ho.inn q hq
  simpa [getO, List.getD_eq_getElem?_getD, hq] using this

theorem LWp.drawL {G : Ctx} {M : Option Nat} {n : Nat} {id : Nat} {Q : Exit → (Nat → TV) → LS → Prop} {T : Nat → TV} {S : LS} {ops : List Oper} (ord : List Nat) (hm : G.P.follows .mixedOrders = true) (hok : ordOK ops ord = true)
    (h : LRl (fun _ => False) G M n ops ord (Q .normal) (pick ops ord) 0 T S) : LWp G M n (.region id ops.toArray true) Q T S := .drawX _ ord hm hok h

end Go.Proofs.Ytkjbdldjfjkneaa.LF
