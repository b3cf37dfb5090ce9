/- The frame's rule for a region whose order is drawn: every order that its edges allow gives what the text's order gives, if each operation only gives a value. -/
import Derived.Test.YtkjbdldjfjkneaaLFb
import Derived.Orders
import Derived.OrdersIn
set_option linter.unusedVariables false
set_option linter.unusedSimpArgs false
namespace Go.Proofs.Ytkjbdldjfjkneaa.LF
open Go.RowKit

def maskOf (o : Oper) (acc : List Nat) : Nat := o.after.toList.foldl (fun s e => bif Region.binds .any e then s ||| 2 ^ e.on ||| acc.getD e.on 0 else s) 0

def befores : List Oper → List Nat → List Nat
  | [], acc => acc
  | o :: l, acc => befores l (acc ++ [maskOf o acc])

theorem befores_take (l : List Oper) : ∀ acc, (befores l acc).take acc.length = acc := by
  induction l with
  | nil => intro acc; simp [befores]
  | cons o l ih =>
    intro acc
    have h := ih (acc ++ [maskOf o acc])
    simp only [befores]
    have h2 := congrArg (List.take acc.length) h
    rw [List.take_take, List.length_append, List.length_singleton, Nat.min_eq_left (by omega)] at h2
    rw [h2]; simp

theorem befores_get (l : List Oper) : ∀ acc (j : Nat) o, l[j]? = some o → (befores l acc)[acc.length + j]? = some (maskOf o ((befores l acc).take (acc.length + j))) := by
  induction l with
  | nil => intro acc j o h; simp at h
  | cons o' l ih =>
    intro acc j o h
    cases j with
    | zero =>
      simp only [List.getElem?_cons_zero, Option.some.injEq] at h
      subst h
      simp only [befores, Nat.add_zero]
      have h := befores_take l (acc ++ [maskOf o' acc])
      have h1 : (befores l (acc ++ [maskOf o' acc])).take acc.length = acc := by
        have h2 := congrArg (List.take acc.length) h
        rw [List.take_take, List.length_append, List.length_singleton, Nat.min_eq_left (by omega)] at h2
        rw [h2]; simp
      rw [h1]
      have h3 : (befores l (acc ++ [maskOf o' acc]))[acc.length]? = ((befores l (acc ++ [maskOf o' acc])).take (acc ++ [maskOf o' acc]).length)[acc.length]? := by
        rw [List.getElem?_take, if_pos (by simp)]
      rw [h3, h]; simp
    | succ j =>
      have := ih (acc ++ [maskOf o' acc]) j o (by simpa using h)
      simp only [befores]
      rw [List.length_append, List.length_singleton] at this
      rw [show acc.length + (j + 1) = acc.length + 1 + j by omega]
      exact this

theorem mask_bit (acc : List Nat) (k : Nat) : ∀ (es : List Edge) (s : Nat), (es.foldl (fun s e => bif Region.binds .any e then s ||| 2 ^ e.on ||| acc.getD e.on 0 else s) s).testBit k = true →
    s.testBit k = true ∨ ∃ e ∈ es, Region.binds .any e = true ∧ (k = e.on ∨ (acc.getD e.on 0).testBit k = true) := by
  intro es
  induction es with
  | nil => intro s h; exact .inl h
  | cons e es ih =>
    intro s h
    simp only [List.foldl_cons] at h
    rcases ih _ h with h | ⟨e', he, h'⟩
    · cases hb : Region.binds .any e with
      | false => rw [hb] at h; exact .inl h
      | true =>
        rw [hb] at h
        simp only [cond_true, Nat.testBit_or, Bool.or_eq_true] at h
        rcases h with (h | h) | h
        · exact .inl h
        · refine .inr ⟨e, by simp, hb, .inl ?_⟩
          rw [Nat.testBit_two_pow] at h
          exact (of_decide_eq_true h).symm
        · exact .inr ⟨e, by simp, hb, .inr h⟩
    · exact .inr ⟨e', List.mem_cons_of_mem _ he, h'⟩

def looks (ops : List Oper) (o : Oper) : List Tmp :=
  (o.op.operands.toList.filterMap fun | .tmp t => some t | _ => none) ++
  (match o.guard with
   | some (g, _) => ((ops[g]?).bind (·.dst)).toList
   | none => [])

/-- Two operations of which one writes what the other names. -/
def clash (ops : List Oper) (x y : Oper) : Bool :=
  (match x.dst with | some d => (looks ops y).contains d || y.dst == some d | none => false) || (match y.dst with | some d => (looks ops x).contains d | none => false)

def orderOK (ops : List Oper) : Bool :=
  let B := befores ops []
  (List.range ops.length).all fun j => match ops[j]? with
    | none => true
    | some y => (y.after.toList.all fun e => !Region.binds .any e || Nat.blt e.on j) && (List.range j).all fun i => match ops[i]? with
      | none => true
      | some x => !clash ops x y || (B.getD j 0).testBit i

theorem orderOK_on {ops : List Oper} (h : orderOK ops = true) {j : Nat} {y : Oper} (hy : ops[j]? = some y) (e : Edge) (he : e ∈ y.after) (hb : Region.binds .any e = true) : e.on < j := by
  have hj : j < ops.length := (List.getElem?_eq_some_iff.1 hy).1
  simp only [orderOK, List.all_eq_true] at h
  have h1 := h j (List.mem_range.2 hj)
  rw [hy] at h1
  simp only [Bool.and_eq_true, List.all_eq_true] at h1
  have := h1.1 e (by simpa using he)
  rw [hb] at this
  simpa [Nat.blt_eq] using this

theorem orderOK_clash {ops : List Oper} (h : orderOK ops = true) {i j : Nat} {x y : Oper} (hx : ops[i]? = some x) (hy : ops[j]? = some y) (hij : i < j) (hc : clash ops x y = true) : ((befores ops []).getD j 0).testBit i = true := by
  have hj : j < ops.length := (List.getElem?_eq_some_iff.1 hy).1
  simp only [orderOK, List.all_eq_true] at h
  have h1 := h j (List.mem_range.2 hj)
  rw [hy] at h1
  simp only [Bool.and_eq_true, List.all_eq_true] at h1
  have := h1.2 i (List.mem_range.2 hij)
  rw [hx] at this
  simpa [hc] using this

theorem before_dep {ops : List Oper} {j k : Nat} {y : Oper} (hon : orderOK ops = true) (hy : ops[j]? = some y) (h : ((befores ops []).getD j 0).testBit k = true) :
    ∃ e ∈ y.after, Region.binds .any e = true ∧ (k = e.on ∨ ((befores ops []).getD e.on 0).testBit k = true) := by
  have hg := befores_get ops [] j y hy
  simp only [List.length_nil, Nat.zero_add] at hg
  rw [List.getD_eq_getElem?_getD, hg] at h
  simp only [Option.getD_some, maskOf] at h
  rcases mask_bit _ k _ 0 h with h | ⟨e, he, hb, h⟩
  · simp at h
  · have he' : e ∈ y.after := by simpa using he
    refine ⟨e, he', hb, h.imp id fun h => ?_⟩
    have hlt := orderOK_on hon hy e he' hb
    rw [List.getD_eq_getElem?_getD, List.getElem?_take, if_pos hlt, ← List.getD_eq_getElem?_getD] at h
    exact h

/-- What the slots hold when the operations of a set were done. -/
def vals (ops : List Oper) (T0 : Nat → TV) (r : Nat → TV) (L : Nat → Bool) : Nat → (Nat → TV)
  | 0 => T0
  | i + 1 => bif L i then putT (vals ops T0 r L i) ((ops[i]?).bind (·.dst)) (r i) else vals ops T0 r L i

theorem putT_ne (T : Nat → TV) (d : Option Tmp) (r : TV) {t : Nat} (h : d ≠ some t) : putT T d r t = T t := by
  cases d with
  | none => rfl
  | some d => exact upd_ne T r (fun e => h (by rw [e]))

theorem putT_eq (T : Nat → TV) (t : Nat) (r : TV) : putT T (some t) r t = r := upd_same T t r

structure Closed (ops : List Oper) (L : Nat → Bool) : Prop where
  out : ∀ i, L i = true → ∀ k, ((befores ops []).getD i 0).testBit k = true → L k = true

theorem clash_of_write {ops : List Oper} {x y : Oper} {t : Nat} (hx : x.dst = some t) (hy : t ∈ looks ops y ∨ y.dst = some t) : clash ops x y = true := by
  unfold clash
  rw [hx]
  rcases hy with h | h <;> simp [h]

theorem clash_of_read {ops : List Oper} {x y : Oper} {t : Nat} (hy : y.dst = some t) (hx : t ∈ looks ops x ∨ x.dst = some t) : clash ops x y = true := by
  unfold clash
  rcases hx with h | h
  · rw [hy]; simp [h]
  · rw [h]; simp [hy]

/-- Whatever was done ahead of it in an order that the edges allow: an operation sees the slots that it looks at as in the text's order. -/
theorem vals_seen {ops : List Oper} (hok : orderOK ops = true) {L : Nat → Bool} (hc : Closed ops L) {T0 : Nat → TV} {r : Nat → TV} {j : Nat} {y : Oper} (hy : ops[j]? = some y) (hj : L j = false)
    (hdep : ∀ e ∈ y.after, Region.binds .any e = true → L e.on = true) {t : Nat} (ht : t ∈ looks ops y ∨ y.dst = some t) :
    ∀ m, m ≤ ops.length → vals ops T0 r L m t = vals ops T0 r (fun _ => true) (min m j) t := by
  intro m
  induction m with
  | zero => intro _; simp [vals]
  | succ m ih =>
    intro hm
    have ih := ih (by omega)
    have hbef : ∀ k, ((befores ops []).getD j 0).testBit k = true → L k = true := fun k hk => by
      obtain ⟨e, he, hb, h⟩ := before_dep hok hy hk
      rcases h with rfl | h
      · exact hdep e he hb
      · exact hc.out _ (hdep e he hb) _ h
    obtain ⟨x, hx⟩ : ∃ x, ops[m]? = some x := ⟨_, List.getElem?_eq_getElem (by omega)⟩
    rcases Nat.lt_trichotomy m j with hlt | rfl | hgt
    · rw [show min (m + 1) j = m + 1 by omega]
      rw [show min m j = m by omega] at ih
      simp only [vals, cond_true, hx, Option.bind_some]
      by_cases hd : x.dst = some t
      · have := hbef m (orderOK_clash hok hx hy hlt (clash_of_write hd ht))
        rw [this, hd]
        simp only [cond_true, putT_eq]
      · rw [putT_ne _ _ _ hd, ← ih]
        cases L m
        · rfl
        · simp only [cond_true]; rw [putT_ne _ _ _ hd]
    · rw [show min (m + 1) m = m by omega]
      rw [show min m m = m by omega] at ih
      simp only [vals, hj, cond_false]
      exact ih
    · rw [show min (m + 1) j = j by omega]
      rw [show min m j = j by omega] at ih
      simp only [vals, hx, Option.bind_some]
      by_cases hd : x.dst = some t
      · have hb := orderOK_clash hok hy hx hgt (clash_of_read hd ht)
        have : L m = false := by
          cases hL : L m with
          | false => rfl
          | true => have := hc.out m hL j hb; rw [hj] at this; cases this
        rw [this]; simp only [cond_false]; exact ih
      · rw [← ih]
        cases L m
        · rfl
        · simp only [cond_true]; rw [putT_ne _ _ _ hd]

def withJ (L : Nat → Bool) (j : Nat) : Nat → Bool := fun i => bif Nat.beq i j then true else L i
theorem withJ_same (L : Nat → Bool) (j : Nat) : withJ L j j = true := by simp [withJ]
theorem withJ_ne (L : Nat → Bool) {i j : Nat} (h : i ≠ j) : withJ L j i = L i := by
  have : Nat.beq i j = false := by cases hb : Nat.beq i j with
    | false => rfl
    | true => exact absurd (Nat.eq_of_beq_eq_true hb) h
  simp [withJ, this]

theorem vals_put {ops : List Oper} (hok : orderOK ops = true) {L : Nat → Bool} (hc : Closed ops L) {T0 : Nat → TV} {r : Nat → TV} {j : Nat} {y : Oper} (hy : ops[j]? = some y) (hj : L j = false) (t : Nat) :
    ∀ m, m ≤ ops.length → vals ops T0 r (withJ L j) m t = if j < m then putT (vals ops T0 r L m) y.dst (r j) t else vals ops T0 r L m t := by
  intro m
  induction m with
  | zero => intro _; simp [vals]
  | succ m ih =>
    intro hm
    have ih := ih (by omega)
    obtain ⟨x, hx⟩ : ∃ x, ops[m]? = some x := ⟨_, List.getElem?_eq_getElem (by omega)⟩
    rcases Nat.lt_trichotomy m j with hlt | rfl | hgt
    · rw [if_neg (by omega)]
      rw [if_neg (by omega)] at ih
      simp only [vals, hx, Option.bind_some, withJ_ne L (Nat.ne_of_lt hlt)]
      cases L m
      · simpa using ih
      · simp only [cond_true]
        by_cases hd : x.dst = some t
        · rw [hd, putT_eq, putT_eq]
        · rw [putT_ne _ _ _ hd, putT_ne _ _ _ hd]; exact ih
    · rw [if_pos (by omega)]
      rw [if_neg (by omega)] at ih
      rw [hy] at hx
      obtain rfl : y = x := by simpa using hx
      simp only [vals, hy, Option.bind_some, withJ_same, cond_true, hj, cond_false]
      by_cases hd : y.dst = some t
      · rw [hd, putT_eq, putT_eq]
      · rw [putT_ne _ _ _ hd, putT_ne _ _ _ hd]; exact ih
    · rw [if_pos (by omega)]
      rw [if_pos (by omega)] at ih
      simp only [vals, hx, Option.bind_some, withJ_ne L (Nat.ne_of_gt hgt)]
      cases hL : L m with
      | false => simp only [cond_false]; exact ih
      | true =>
        simp only [cond_true]
        by_cases hd : x.dst = some t
        · have hyt : y.dst ≠ some t := fun e => by
            have hb := orderOK_clash hok hy hx hgt (clash_of_write e (.inr hd))
            have := hc.out m hL j hb
            rw [hj] at this; cases this
          rw [putT_ne _ _ _ hyt, hd, putT_eq, putT_eq]
        · rw [putT_ne _ _ _ hd, ih]
          by_cases hyt : y.dst = some t
          · rw [hyt, putT_eq, putT_eq]
          · rw [putT_ne _ _ _ hyt, putT_ne _ _ _ hyt, putT_ne _ _ _ hd]

theorem wantedT_congr {ops : List Oper} {o : Oper} {T T' : Nat → TV} (h : ∀ t ∈ looks ops o, T t = T' t) : wantedT ops.toArray T o = wantedT ops.toArray T' o := by
  unfold wantedT
  cases hg : o.guard with
  | none => rfl
  | some jw =>
    obtain ⟨j, want⟩ := jw
    simp only [List.getElem?_toArray]
    cases hd : (ops[j]?).bind (·.dst) with
    | none => rfl
    | some d =>
      have : T d = T' d := h d (by simp [looks, hg, hd])
      show (match T d with | .one (.v (.bool b)) => some (b == want) | .tup _ => some false | .when g (.one (.v (.bool b))) => some (g && (b == want)) | _ => none) = (match T' d with | .one (.v (.bool b)) => some (b == want) | .tup _ => some false | .when g (.one (.v (.bool b))) => some (g && (b == want)) | _ => none)
      rw [this]

theorem lev_congr {ops : List Oper} {o : Oper} {T T' : Nat → TV} (h : ∀ t ∈ looks ops o, T t = T' t) : ∀ x ∈ o.op.operands, lev T x = lev T' x := by
  intro x hx
  cases x with
  | tmp t => exact h t (by simp only [looks, List.mem_append, List.mem_filterMap]; exact .inl ⟨.tmp t, by simpa using hx, rfl⟩)
  | _ => rfl

def left (n : Nat) (L : Nat → Bool) : Nat := (List.range n).countP fun i => !L i

theorem left_with {n : Nat} {L : Nat → Bool} {j : Nat} (hj : j < n) (h : L j = false) : left n (withJ L j) + 1 = left n L := by
  induction n with
  | zero => omega
  | succ n ih =>
    unfold left at *
    rw [List.range_succ, List.countP_append, List.countP_append]
    simp only [List.countP_cons, List.countP_nil, Nat.zero_add]
    by_cases hjn : j = n
    · subst hjn
      simp only [withJ_same, h]
      have : (List.range j).countP (fun i => !withJ L j i) = (List.range j).countP (fun i => !L i) := by
        apply List.countP_congr
        intro i hi
        rw [withJ_ne L (Nat.ne_of_lt (List.mem_range.1 hi))]
      rw [this]; simp
    · have := ih (by omega)
      rw [withJ_ne L (fun e => hjn e.symm)]
      omega

theorem wpAnyIn_mono' {F : Fence} {n : Nat} {P : Program} {md : Region.Mode} {ops : Array Oper} {Q Q' : Exit → Act → World → Prop} (hq : ∀ e a w, Q e a w → Q' e a w) :
    ∀ (fuel : Nat) (listed : Array Bool) (a : Act) (w : World), wpAnyIn F n P md ops Q fuel listed a w → wpAnyIn F n P md ops Q' fuel listed a w := by
  intro fuel
  induction fuel with
  | zero => exact fun listed a w h => ⟨h.1, hq _ _ _ h.2⟩
  | succ fuel ih =>
    intro listed a w h
    refine ⟨fun hr => hq _ _ _ (h.1 hr), fun i hi => ?_⟩
    have := h.2 i hi
    unfold wpOpIn at *
    split
    · rename_i ho; rw [ho] at this; exact ih _ _ _ this
    · rename_i o ho
      rw [ho] at this
      simp only at this
      split
      · rename_i hw
        rw [if_pos hw] at this
        exact ⟨this.1, uponIn_mono (ih _) hq this.2⟩
      · rename_i hw
        rw [if_neg hw] at this
        exact ⟨this.1, ih _ _ _ this.2⟩

theorem Ext.drew (K : Kept) (w : World) : Ext K w K w.drew := ⟨fun _ _ h => ⟨h, rfl⟩, fun _ _ h => h, Nat.le_refl _, fun _ h => h⟩

theorem Inv.drew {G : Ctx} {S : LS} {K : Kept} {w : World} (h : Inv G S K w) : Inv G S K w.drew where
  below := h.below.drew
  base := h.base
  live := h.live
  box := fun b cs hb => by
    obtain ⟨h1, h2, c, T, h3, h4, h5, h6⟩ := h.box b cs hb
    exact ⟨h1, h2, c, T, h3, h4, fun j x v hj hv => (h5 j x v hj hv).mono (.drew K w), h6⟩
  row := h.row
  obj := h.obj
  top := h.top
  since := G.stable _ _ _ _ h.since (.drew K w)

end Go.Proofs.Ytkjbdldjfjkneaa.LF
