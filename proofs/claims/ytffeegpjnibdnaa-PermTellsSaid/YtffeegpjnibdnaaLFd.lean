/- The frame's rule for a region whose order is drawn: every order that its edges allow gives what the text's order gives, if each operation only gives a value. -/
import Derived.Test.YtffeegpjnibdnaaLFb
import Derived.Orders
import Derived.OrdersIn
set_option linter.unusedVariables false
set_option linter.unusedSimpArgs false
namespace Go.Proofs.Ytffeegpjnibdnaa.LF
open Go.RowKit

def maskOf (o : Oper) (acc : List Nat) : Nat := o.after.toList.foldl (fun s e => bif Region.binds .any e then s ||| 2 ^ e.on ||| acc.getD e.on 0 else s) 0

def befores : List Oper → List Nat → List Nat
  | [], acc => acc
  | o :: l, acc => befores l (acc ++ [maskOf o acc])

theorem befores_take (l : List Oper) : ∀ acc, (befores l acc).take acc.length = acc := by
  induction l with
  | nil => intro acc; simp [befores]
  | cons o l ih =>
    intro acc
    have h := ih (acc ++ [maskOf o acc])
    simp only [befores]
    have h2 := congrArg (List.take acc.length) h
    rw [List.take_take, List.length_append, List.length_singleton, Nat.min_eq_left (by omega)] at h2
    rw [h2]; simp

theorem befores_get (l : List Oper) : ∀ acc (j : Nat) o, l[j]? = some o → (befores l acc)[acc.length + j]? = some (maskOf o ((befores l acc).take (acc.length + j))) := by
  induction l with
  | nil => intro acc j o h; simp at h
  | cons o' l ih =>
    intro acc j o h
    cases j with
    | zero =>
      simp only [List.getElem?_cons_zero, Option.some.injEq] at h
      subst h
      simp only [befores, Nat.add_zero]
      have h := befores_take l (acc ++ [maskOf o' acc])
      have h1 : (befores l (acc ++ [maskOf o' acc])).take acc.length = acc := by
        have h2 := congrArg (List.take acc.length) h
        rw [List.take_take, List.length_append, List.length_singleton, Nat.min_eq_left (by omega)] at h2
        rw [h2]; simp
      rw [h1]
      have h3 : (befores l (acc ++ [maskOf o' acc]))[acc.length]? = ((befores l (acc ++ [maskOf o' acc])).take (acc ++ [maskOf o' acc]).length)[acc.length]? := by
        rw [List.getElem?_take, if_pos (by simp)]
      rw [h3, h]; simp
    | succ j =>
      have := ih (acc ++ [maskOf o' acc]) j o (by simpa using h)
      simp only [befores]
      rw [List.length_append, List.length_singleton] at this
      rw [show acc.length + (j + 1) = acc.length + 1 + j by omega]
      exact this

theorem mask_bit (acc : List Nat) (k : Nat) : ∀ (es : List Edge) (s : Nat), (es.foldl (fun s e => bif Region.binds .any e then s ||| 2 ^ e.on ||| acc.getD e.on 0 else s) s).testBit k = true →
    s.testBit k = true ∨ ∃ e ∈ es, Region.binds .any e = true ∧ (k = e.on ∨ (acc.getD e.on 0).testBit k = true) := by
  intro es
  induction es with
  | nil => intro s h; exact .inl h
  | cons e es ih =>
    intro s h
    simp only [List.foldl_cons] at h
    rcases ih _ h with h | ⟨e', he, h'⟩
    · cases hb : Region.binds .any e with
      | false => rw [hb] at h; exact .inl h
      | true =>
        rw [hb] at h
        simp only [cond_true, Nat.testBit_or, Bool.or_eq_true] at h
        rcases h with (h | h) | h
        · exact .inl h
        · refine .inr ⟨e, by simp, hb, .inl ?_⟩
          rw [Nat.testBit_two_pow] at h
          exact (of_decide_eq_true h).symm
        · exact .inr ⟨e, by simp, hb, .inr h⟩
    · exact .inr ⟨e', List.mem_cons_of_mem _ he, h'⟩

def looks (ops : List Oper) (o : Oper) : List Tmp :=
  (o.op.operands.toList.filterMap fun | .tmp t => some t | _ => none) ++
  (match o.guard with
   | some (g, _) => ((ops[g]?).bind (·.dst)).toList
   | none => [])

/-- Two operations of which one writes what the other names. -/
def clash (ops : List Oper) (x y : Oper) : Bool :=
  (match x.dst with | some d => (looks ops y).contains d || y.dst == some d | none => false) || (match y.dst with | some d => (looks ops x).contains d | none => false)

def orderOK (ops : List Oper) : Bool :=
  let B := befores ops []
  (List.range ops.length).all fun j => match ops[j]? with
    | none => true
    | some y => (y.after.toList.all fun e => !Region.binds .any e || Nat.blt e.on j) && (List.range j).all fun i => match ops[i]? with
      | none => true
      | some x => !clash ops x y || (B.getD j 0).testBit i

theorem orderOK_on {ops : List Oper} (h : orderOK ops = true) {j : Nat} {y : Oper} (hy : ops[j]? = some y) (e : Edge) (he : e ∈ y.after) (hb : Region.binds .any e = true) : e.on < j := by
  have hj : j < ops.length := (List.getElem?_eq_some_iff.1 hy).1
  simp only [orderOK, List.all_eq_true] at h
  have h1 := h j (List.mem_range.2 hj)
  rw [hy] at h1
  simp only [Bool.and_eq_true, List.all_eq_true] at h1
  have := h1.1 e (by simpa using he)
  rw [hb] at this
  simpa [Nat.blt_eq] using this

theorem orderOK_clash {ops : List Oper} (h : orderOK ops = true) {i j : Nat} {x y : Oper} (hx : ops[i]? = some x) (hy : ops[j]? = some y) (hij : i < j) (hc : clash ops x y = true) : ((befores ops []).getD j 0).testBit i = true := by
  have hj : j < ops.length := (List.getElem?_eq_some_iff.1 hy).1
  simp only [orderOK, List.all_eq_true] at h
  have h1 := h j (List.mem_range.2 hj)
  rw [hy] at h1
  simp only [Bool.and_eq_true, List.all_eq_true] at h1
  have := h1.2 i (List.mem_range.2 hij)
  rw [hx] at this
  simpa [hc] using this

theorem before_dep {ops : List Oper} {j k : Nat} {y : Oper} (hon : orderOK ops = true) (hy : ops[j]? = some y) (h : ((befores ops []).getD j 0).testBit k = true) :
    ∃ e ∈ y.after, Region.binds .any e = true ∧ (k = e.on ∨ ((befores ops []).getD e.on 0).testBit k = true) := by
  have hg := befores_get ops [] j y hy
  simp only [List.length_nil, Nat.zero_add] at hg
  rw [List.getD_eq_getElem?_getD, hg] at h
  simp only [Option.getD_some, maskOf] at h
  rcases mask_bit _ k _ 0 h with h | ⟨e, he, hb, h⟩
  · simp at h
  · have he' : e ∈ y.after := by simpa using he
    refine ⟨e, he', hb, h.imp id fun h => ?_⟩
    have hlt := orderOK_on hon hy e he' hb
    rw [List.getD_eq_getElem?_getD, List.getElem?_take, if_pos hlt, ← List.getD_eq_getElem?_getD] at h
    exact h

/-- What the slots hold when the operations of a set were done. -/
def vals (ops : List Oper) (T0 : Nat → TV) (r : Nat → TV) (L : Nat → Bool) : Nat → (Nat → TV)
  | 0 => T0
  | i + 1 => bif L i then putT (vals ops T0 r L i) ((ops[i]?).bind (·.dst)) (r i) else vals ops T0 r L i

theorem putT_ne (T : Nat → TV) (d : Option Tmp) (r : TV) {t : Nat} (h : d ≠ some t) : putT T d r t = T t := by
  cases d with
  | none => rfl
  | some d => exact upd_ne T r (fun e => h (by rw [e]))

theorem putT_eq (T : Nat → TV) (t : Nat) (r : TV) : putT T (some t) r t = r := upd_same T t r

structure Closed (ops : List Oper) (L : Nat → Bool) : Prop where
  out : ∀ i, L i = true → ∀ k, ((befores ops []).getD i 0).testBit k = true → L k = true

theorem clash_of_write {ops : List Oper} {x y : Oper} {t : Nat} (hx : x.dst = some t) (hy : t ∈ looks ops y ∨ y.dst = some t) : clash ops x y = true := by
  unfold clash
  rw [hx]
  rcases hy with h | h <;> simp [h]

theorem clash_of_read {ops : List Oper} {x y : Oper} {t : Nat} (hy : y.dst = some t) (hx : t ∈ looks ops x ∨ x.dst = some t) : clash ops x y = true := by
  unfold clash
  rcases hx with h | h
  · rw [hy]; simp [h]
  · rw [h]; simp [hy]

/-- Whatever was done ahead of it in an order that the edges allow: an operation sees the slots that it looks at as in the text's order. -/
theorem vals_seen {ops : List Oper} (hok : orderOK ops = true) {L : Nat → Bool} (hc : Closed ops L) {T0 : Nat → TV} {r : Nat → TV} {j : Nat} {y : Oper} (hy : ops[j]? = some y) (hj : L j = false)
    (hdep : ∀ e ∈ y.after, Region.binds .any e = true → L e.on = true) {t : Nat} (ht : t ∈ looks ops y ∨ y.dst = some t) :
    ∀ m, m ≤ ops.length → vals ops T0 r L m t = vals ops T0 r (fun _ => true) (min m j) t := by
  intro m
  induction m with
  | zero => intro _; simp [vals]
  | succ m ih =>
    intro hm
    have ih := ih (by omega)
    have hbef : ∀ k, ((befores ops []).getD j 0).testBit k = true → L k = true := fun k hk => by
      obtain ⟨e, he, hb, h⟩ := before_dep hok hy hk
      rcases h with rfl | h
      · exact hdep e he hb
      · exact hc.out _ (hdep e he hb) _ h
    obtain ⟨x, hx⟩ : ∃ x, ops[m]? = some x := ⟨_, List.getElem?_eq_getElem (by omega)⟩
    rcases Nat.lt_trichotomy m j with hlt | rfl | hgt
    · rw [show min (m + 1) j = m + 1 by omega]
      rw [show min m j = m by omega] at ih
      simp only [vals, cond_true, hx, Option.bind_some]
      by_cases hd : x.dst = some t
      · have := hbef m (orderOK_clash hok hx hy hlt (clash_of_write hd ht))
        rw [this, hd]
        simp only [cond_true, putT_eq]
      · rw [putT_ne _ _ _ hd, ← ih]
        cases L m
        · rfl
        · simp only [cond_true]; rw [putT_ne _ _ _ hd]
    · rw [show min (m + 1) m = m by omega]
      rw [show min m m = m by omega] at ih
      simp only [vals, hj, cond_false]
      exact ih
    · rw [show min (m + 1) j = j by omega]
      rw [show min m j = j by omega] at ih
      simp only [vals, hx, Option.bind_some]
      by_cases hd : x.dst = some t
      · have hb := orderOK_clash hok hy hx hgt (clash_of_read hd ht)
        have : L m = false := by
          cases hL : L m with
          | false => rfl
          | true => have := hc.out m hL j hb; rw [hj] at this; cases this
        rw [this]; simp only [cond_false]; exact ih
      · rw [← ih]
        cases L m
        · rfl
        · simp only [cond_true]; rw [putT_ne _ _ _ hd]

def withJ (L : Nat → Bool) (j : Nat) : Nat → Bool := fun i => bif Nat.beq i j then true else L i
theorem withJ_same (L : Nat → Bool) (j : Nat) : withJ L j j = true := by simp [withJ]
theorem withJ_ne (L : Nat → Bool) {i j : Nat} (h : i ≠ j) : withJ L j i = L i := by
  have : Nat.beq i j = false := by cases hb : Nat.beq i j with
    | false => rfl
    | true => exact absurd (Nat.eq_of_beq_eq_true hb) h
  simp [withJ, this]

theorem vals_put {ops : List Oper} (hok : orderOK ops = true) {L : Nat → Bool} (hc : Closed ops L) {T0 : Nat → TV} {r : Nat → TV} {j : Nat} {y : Oper} (hy : ops[j]? = some y) (hj : L j = false) (t : Nat) :
    ∀ m, m ≤ ops.length → vals ops T0 r (withJ L j) m t = if j < m then putT (vals ops T0 r L m) y.dst (r j) t else vals ops T0 r L m t := by
  intro m
  induction m with
  | zero => intro _; simp [vals]
  | succ m ih =>
    intro hm
    have ih := ih (by omega)
    obtain ⟨x, hx⟩ : ∃ x, ops[m]? = some x := ⟨_, List.getElem?_eq_getElem (by omega)⟩
    rcases Nat.lt_trichotomy m j with hlt | rfl | hgt
    · rw [if_neg (by omega)]
      rw [if_neg (by omega)] at ih
      simp only [vals, hx, Option.bind_some, withJ_ne L (Nat.ne_of_lt hlt)]
      cases L m
      · simpa using ih
      · simp only [cond_true]
        by_cases hd : x.dst = some t
        · rw [hd, putT_eq, putT_eq]
        · rw [putT_ne _ _ _ hd, putT_ne _ _ _ hd]; exact ih
    · rw [if_pos (by omega)]
      rw [if_neg (by omega)] at ih
      rw [hy] at hx
      obtain rfl : y = x := by simpa using hx
      simp only [vals, hy, Option.bind_some, withJ_same, cond_true, hj, cond_false]
      by_cases hd : y.dst = some t
      · rw [hd, putT_eq, putT_eq]
      · rw [putT_ne _ _ _ hd, putT_ne _ _ _ hd]; exact ih
    · rw [if_pos (by omega)]
      rw [if_pos (by omega)] at ih
      simp only [vals, hx, Option.bind_some, withJ_ne L (Nat.ne_of_gt hgt)]
      cases hL : L m with
      | false => simp only [cond_false]; exact ih
      | true =>
        simp only [cond_true]
        by_cases hd : x.dst = some t
        · have hyt : y.dst ≠ some t := fun e => by
            have hb := orderOK_clash hok hy hx hgt (clash_of_write e (.inr hd))
            have := hc.out m hL j hb
            rw [hj] at this; cases this
          rw [putT_ne _ _ _ hyt, hd, putT_eq, putT_eq]
        · rw [putT_ne _ _ _ hd, ih]
          by_cases hyt : y.dst = some t
          · rw [hyt, putT_eq, putT_eq]
          · rw [putT_ne _ _ _ hyt, putT_ne _ _ _ hyt, putT_ne _ _ _ hd]

/-- The text's order, each operation giving a value or left out by its guard. -/
inductive LQ (G : Ctx) (n : Nat) (ops : List Oper) (S : LS) : List Oper → (Nat → TV) → (Nat → TV) → Prop
  | nil (T : Nat → TV) : LQ G n ops S [] T T
  | val {o : Oper} {l : List Oper} {T T' : Nat → TV} {r : TV} (h : LVal G o T S r) (hg : wantedT ops.toArray T o = some true) (hd : dstOK n o.dst = true) (k : LQ G n ops S l (putT T o.dst r) T') : LQ G n ops S (o :: l) T T'
  | skip {o : Oper} {l : List Oper} {T T' : Nat → TV} (hg : wantedT ops.toArray T o = some false) (hd : dstOK n o.dst = true) (k : LQ G n ops S l (putT T o.dst (.tup [])) T') : LQ G n ops S (o :: l) T T'

def stage : List Oper → List TV → (Nat → TV) → Nat → (Nat → TV)
  | o :: l, r :: rs, T, k + 1 => stage l rs (putT T o.dst r) k
  | _, _, T, _ => T

theorem LQ.list {G : Ctx} {n : Nat} {ops : List Oper} {S : LS} {l : List Oper} {T T' : Nat → TV} (h : LQ G n ops S l T T') :
    ∃ rs : List TV, rs.length = l.length ∧ stage l rs T l.length = T' ∧ ∀ k o, l[k]? = some o → dstOK n o.dst = true ∧
      ((wantedT ops.toArray (stage l rs T k) o = some true ∧ LVal G o (stage l rs T k) S (rs.getD k .any)) ∨ (wantedT ops.toArray (stage l rs T k) o = some false ∧ rs.getD k .any = .tup [])) := by
  induction h with
  | nil T => exact ⟨[], rfl, rfl, by simp⟩
  | @val o l T T' r hv hg hd k ih =>
    obtain ⟨rs, h1, h2, h3⟩ := ih
    refine ⟨r :: rs, by simp [h1], by simpa [stage] using h2, fun k o' hk => ?_⟩
    cases k with
    | zero =>
      obtain rfl : o = o' := by simpa using hk
      exact ⟨hd, .inl ⟨hg, hv⟩⟩
    | succ k => simpa [stage] using h3 k o' (by simpa using hk)
  | @skip o l T T' hg hd k ih =>
    obtain ⟨rs, h1, h2, h3⟩ := ih
    refine ⟨.tup [] :: rs, by simp [h1], by simpa [stage] using h2, fun k o' hk => ?_⟩
    cases k with
    | zero =>
      obtain rfl : o = o' := by simpa using hk
      exact ⟨hd, .inr ⟨hg, rfl⟩⟩
    | succ k => simpa [stage] using h3 k o' (by simpa using hk)

theorem stage_succ : ∀ (l : List Oper) (rs : List TV) (T : Nat → TV) (k : Nat) (o : Oper), rs.length = l.length → l[k]? = some o → stage l rs T (k + 1) = putT (stage l rs T k) o.dst (rs.getD k .any) := by
  intro l
  induction l with
  | nil => intro rs T k o _ h; simp at h
  | cons x l ih =>
    intro rs T k o hl hk
    cases rs with
    | nil => simp at hl
    | cons r rs =>
      cases k with
      | zero =>
        obtain rfl : x = o := by simpa using hk
        cases l <;> cases rs <;> simp [stage]
      | succ k =>
        have := ih rs (putT T x.dst r) k o (by simpa using hl) (by simpa using hk)
        simpa [stage] using this

theorem stage_vals {ops : List Oper} {rs : List TV} {T : Nat → TV} (hl : rs.length = ops.length) : ∀ k, k ≤ ops.length → stage ops rs T k = vals ops T (fun i => rs.getD i .any) (fun _ => true) k := by
  intro k
  induction k with
  | zero => intro _; cases ops <;> cases rs <;> simp [stage, vals]
  | succ k ih =>
    intro hk
    obtain ⟨o, ho⟩ : ∃ o, ops[k]? = some o := ⟨_, List.getElem?_eq_getElem (by omega)⟩
    rw [stage_succ ops rs T k o hl ho, ih (by omega)]
    simp [vals, ho]

theorem wantedT_congr {ops : List Oper} {o : Oper} {T T' : Nat → TV} (h : ∀ t ∈ looks ops o, T t = T' t) : wantedT ops.toArray T o = wantedT ops.toArray T' o := by
  unfold wantedT
  cases hg : o.guard with
  | none => rfl
  | some jw =>
    obtain ⟨j, want⟩ := jw
    simp only [List.getElem?_toArray]
    cases hd : (ops[j]?).bind (·.dst) with
    | none => rfl
    | some d =>
      have : T d = T' d := h d (by simp [looks, hg, hd])
      show (match T d with | .one (.v (.bool b)) => some (b == want) | .tup _ => some false | _ => none) = (match T' d with | .one (.v (.bool b)) => some (b == want) | .tup _ => some false | _ => none)
      rw [this]

theorem lev_congr {ops : List Oper} {o : Oper} {T T' : Nat → TV} (h : ∀ t ∈ looks ops o, T t = T' t) : ∀ x ∈ o.op.operands, lev T x = lev T' x := by
  intro x hx
  cases x with
  | tmp t => exact h t (by simp only [looks, List.mem_append, List.mem_filterMap]; exact .inl ⟨.tmp t, by simpa using hx, rfl⟩)
  | _ => rfl

def left (n : Nat) (L : Nat → Bool) : Nat := (List.range n).countP fun i => !L i

theorem left_with {n : Nat} {L : Nat → Bool} {j : Nat} (hj : j < n) (h : L j = false) : left n (withJ L j) + 1 = left n L := by
  induction n with
  | zero => omega
  | succ n ih =>
    unfold left at *
    rw [List.range_succ, List.countP_append, List.countP_append]
    simp only [List.countP_cons, List.countP_nil, Nat.zero_add]
    by_cases hjn : j = n
    · subst hjn
      simp only [withJ_same, h]
      have : (List.range j).countP (fun i => !withJ L j i) = (List.range j).countP (fun i => !L i) := by
        apply List.countP_congr
        intro i hi
        rw [withJ_ne L (Nat.ne_of_lt (List.mem_range.1 hi))]
      rw [this]; simp
    · have := ih (by omega)
      rw [withJ_ne L (fun e => hjn e.symm)]
      omega

theorem wpAnyIn_mono' {F : Fence} {n : Nat} {P : Program} {md : Region.Mode} {ops : Array Oper} {Q Q' : Exit → Act → World → Prop} (hq : ∀ e a w, Q e a w → Q' e a w) :
    ∀ (fuel : Nat) (listed : Array Bool) (a : Act) (w : World), wpAnyIn F n P md ops Q fuel listed a w → wpAnyIn F n P md ops Q' fuel listed a w := by
  intro fuel
  induction fuel with
  | zero => exact fun listed a w h => ⟨h.1, hq _ _ _ h.2⟩
  | succ fuel ih =>
    intro listed a w h
    refine ⟨fun hr => hq _ _ _ (h.1 hr), fun i hi => ?_⟩
    have := h.2 i hi
    unfold wpOpIn at *
    split
    · rename_i ho; rw [ho] at this; exact ih _ _ _ this
    · rename_i o ho
      rw [ho] at this
      simp only at this
      split
      · rename_i hw
        rw [if_pos hw] at this
        exact ⟨this.1, uponIn_mono (ih _) hq this.2⟩
      · rename_i hw
        rw [if_neg hw] at this
        exact ⟨this.1, ih _ _ _ this.2⟩

theorem wpAny_of {G : Ctx} {M : Option Nat} {m n : Nat} {ops : List Oper} {S : LS} {T0 : Nat → TV} {r : Nat → TV} (hok : orderOK ops = true)
    (hops : ∀ k o, ops[k]? = some o → dstOK n o.dst = true ∧
      ((wantedT ops.toArray (vals ops T0 r (fun _ => true) k) o = some true ∧ LVal G o (vals ops T0 r (fun _ => true) k) S (r k)) ∨ (wantedT ops.toArray (vals ops T0 r (fun _ => true) k) o = some false ∧ r k = .tup []))) :
    ∀ (fuel : Nat) (listed : Array Bool) (L : Nat → Bool) (a : Act) (w : World) (K : Kept), listed.size = ops.length → (∀ i, i < ops.length → listed.getD i false = L i) → Closed ops L → left ops.length L ≤ fuel →
      Inv G S K w → RelT G w K n (vals ops T0 r L ops.length) a → Marks m w a.defers →
      wpAnyIn (fen M) 0 G.P .any ops.toArray (fun e a' w' => e = .normal ∧ Post G m n K w (fun T S' => T = vals ops T0 r (fun _ => true) ops.length ∧ S' = S) a' w') fuel listed a w := by
  have hend : ∀ (listed : Array Bool) (L : Nat → Bool) (a : Act) (w : World) (K : Kept), (∀ i, i < ops.length → L i = true) →
      Inv G S K w → RelT G w K n (vals ops T0 r L ops.length) a → Marks m w a.defers → Post G m n K w (fun T S' => T = vals ops T0 r (fun _ => true) ops.length ∧ S' = S) a w := by
    intro listed L a w K hall hi hr hf
    have : ∀ m, m ≤ ops.length → vals ops T0 r L m = vals ops T0 r (fun _ => true) m := by
      intro m
      induction m with
      | zero => intro _; rfl
      | succ m ih => intro hm; simp only [vals, hall m (by omega), ih (by omega)]
    exact ⟨_, S, K, hi, hr, hf, .refl _ _, this _ (Nat.le_refl _), rfl⟩
  intro fuel
  induction fuel with
  | zero =>
    intro listed L a w K hsz hL hc hle hi hr hf
    have hall : ∀ i, i < ops.length → L i = true := by
      intro i hi'
      have h0 : left ops.length L = 0 := by omega
      unfold left at h0
      rw [List.countP_eq_zero] at h0
      have := h0 i (List.mem_range.2 hi')
      simpa using this
    refine ⟨?_, rfl, hend listed L a w K hall hi hr hf⟩
    cases hrd : Region.ready .any ops.toArray listed with
    | nil => rfl
    | cons x xs =>
      have hm : x ∈ Region.ready .any ops.toArray listed := by rw [hrd]; simp
      rw [mem_ready] at hm
      obtain ⟨h1, o, ho, _⟩ := hm
      have hx : x < ops.length := by simpa using (Array.getElem?_eq_some_iff.1 ho).1
      have h2 := hL x hx
      rw [hall x hx] at h2
      rw [Array.getD_eq_getD_getElem?] at h1 h2
      cases hq : listed[x]? with
      | none => rw [hq] at h2; simp at h2
      | some b => rw [hq] at h1 h2; simp at h1 h2; rw [h1] at h2; cases h2
  | succ fuel ih =>
    intro listed L a w K hsz hL hc hle hi hr hf
    have hgd : ∀ x, x < ops.length → listed.getD x true = L x := by
      intro x hx
      rw [← hL x hx, Array.getD_eq_getD_getElem?, Array.getD_eq_getD_getElem?, Array.getElem?_eq_getElem (by omega)]; rfl
    refine ⟨fun hnil => ⟨rfl, ?_⟩, fun j hj => ?_⟩
    · have hall : ∀ i, i < ops.length → L i = true := by
        intro i
        induction i using Nat.strongRecOn with
        | _ i ihi =>
          intro hi'
          cases hLi : L i with
          | true => rfl
          | false =>
            have : i ∈ Region.ready .any ops.toArray listed := by
              rw [mem_ready]
              refine ⟨by rw [hgd i hi', hLi], ops[i], by simp [hi'], fun e he hb => ?_⟩
              have hlt := orderOK_on hok (List.getElem?_eq_getElem hi') e he hb
              rw [hL e.on (by omega)]
              exact ihi e.on hlt (by omega)
            rw [hnil] at this; simp at this
      exact hend listed L a w K hall hi hr hf
    · rw [mem_ready] at hj
      obtain ⟨h1, y, hy, hdep⟩ := hj
      have hy' : ops[j]? = some y := by simpa using hy
      have hjl : j < ops.length := (List.getElem?_eq_some_iff.1 hy').1
      have hLj : L j = false := by rw [← hgd j hjl]; exact h1
      have hdep' : ∀ e ∈ y.after, Region.binds .any e = true → L e.on = true := fun e he hb => by
        have := hdep e he hb
        rw [hL e.on (by have := orderOK_on hok hy' e he hb; omega)] at this
        exact this
      have hseen : ∀ t ∈ looks ops y, vals ops T0 r L ops.length t = vals ops T0 r (fun _ => true) j t := fun t ht => by
        have := vals_seen hok hc (T0 := T0) (r := r) hy' hLj hdep' (.inl ht) ops.length (Nat.le_refl _)
        rw [Nat.min_eq_right (by omega)] at this
        exact this
      have hput : putT (vals ops T0 r L ops.length) y.dst (r j) = vals ops T0 r (withJ L j) ops.length := by
        funext t
        rw [vals_put hok hc (T0 := T0) (r := r) hy' hLj t ops.length (Nat.le_refl _), if_pos hjl]
      have hcl : Closed ops (withJ L j) := ⟨fun i hLi k hk => by
        have hsub : ∀ k, L k = true → withJ L j k = true := fun k h => by
          by_cases e : k = j
          · subst e; exact withJ_same _ _
          · rw [withJ_ne L e]; exact h
        by_cases e : i = j
        · subst e
          obtain ⟨ed, he, hb, h⟩ := before_dep hok hy' hk
          rcases h with rfl | h
          · exact hsub _ (hdep' ed he hb)
          · exact hsub _ (hc.out _ (hdep' ed he hb) _ h)
        · rw [withJ_ne L e] at hLi
          exact hsub _ (hc.out i hLi k hk)⟩
      have hlst : ∀ i, i < ops.length → (listed.setIfInBounds j true).getD i false = withJ L j i := fun i hi' => by
        by_cases e : i = j
        · subst e
          rw [withJ_same, Array.getD_eq_getD_getElem?]
          simp [hsz, hi']
        · rw [withJ_ne L e, getD_set_ne false (Ne.symm e)]
          exact hL i hi'
      have hleft := left_with hjl hLj
      obtain ⟨hd, hcase⟩ := hops j y hy'
      unfold wpOpIn
      rw [hy]
      simp only
      rcases hcase with ⟨hw, hv⟩ | ⟨hw, hany⟩
      · rw [← wantedT_congr hseen] at hw
        rw [if_pos (wanted_of hr hw)]
        have hv' := hv.congr (fun x hx => (lev_congr hseen x hx).symm)
        refine wpIn_of_wp (hv' K w a hi fun x _ => hr.eval x) fun a' w' hp => ?_
        obtain ⟨v, K', rfl, h2, h3, h4⟩ := hp
        refine ⟨put_defers _ _ _, ?_⟩
        have := ih (listed.setIfInBounds j true) (withJ L j) (a.put y.dst v) w' K' (by simp [hsz]) hlst hcl (by omega) h3 (by rw [← hput]; exact (hr.mono h4).put hd h2) (by rw [put_defers]; exact hf.mono h4)
        exact wpAnyIn_mono' (fun e a w ⟨he, hp⟩ => ⟨he, hp.trans h4⟩) _ _ _ _ this
      · rw [← wantedT_congr hseen] at hw
        rw [if_neg (by rw [wanted_of hr hw]; simp)]
        refine ⟨fun f _ => fen_fn M f, ?_⟩
        exact ih (listed.setIfInBounds j true) (withJ L j) (a.put y.dst undef) w K (by simp [hsz]) hlst hcl (by omega) hi (by rw [← hput]; exact hr.put hd (by rw [hany]; exact .tup [] #[] rfl (by simp))) (by rw [put_defers]; exact hf)

theorem Ext.drew (K : Kept) (w : World) : Ext K w K w.drew := ⟨fun _ _ h => ⟨h, rfl⟩, fun _ _ h => h, Nat.le_refl _, fun _ h => h⟩

theorem Inv.drew {G : Ctx} {S : LS} {K : Kept} {w : World} (h : Inv G S K w) : Inv G S K w.drew where
  below := h.below.drew
  base := h.base
  live := h.live
  box := fun b cs hb => by
    obtain ⟨h1, h2, c, T, h3, h4, h5, h6⟩ := h.box b cs hb
    exact ⟨h1, h2, c, T, h3, h4, fun j x v hj hv => (h5 j x v hj hv).mono (.drew K w), h6⟩
  row := h.row
  obj := h.obj
  top := h.top
  since := G.stable _ _ _ _ h.since (.drew K w)

theorem vals_none {ops : List Oper} {T0 : Nat → TV} {r : Nat → TV} : ∀ m, vals ops T0 r (fun _ => false) m = T0 := by
  intro m
  induction m with
  | zero => rfl
  | succ m ih => simpa [vals] using ih

theorem LWp.draw {G : Ctx} {M : Option Nat} {n : Nat} {id : Nat} {Q : Exit → (Nat → TV) → LS → Prop} {T T' : Nat → TV} {S : LS} {ops : List Oper} (hm : G.P.follows .mixedOrders = true) (hok : orderOK ops = true)
    (h : LQ G n ops S ops T T') (hq : Q .normal T' S) : LWp G M n (.region id ops.toArray true) Q T S := by
  intro m K w a hi hr hf
  obtain ⟨rs, h1, h2, h3⟩ := h.list
  refine wpIn_region_any hm ?_
  have hT : T' = vals ops T (fun i => rs.getD i .any) (fun _ => true) ops.length := by rw [← h2, stage_vals h1 _ (Nat.le_refl _)]
  have := wpAny_of (G := G) (M := M) (m := m) (n := n) (ops := ops) (S := S) (T0 := T) (r := fun i => rs.getD i .any) hok (fun k o hk => by
      have hk' := (List.getElem?_eq_some_iff.1 hk).1
      have := h3 k o hk
      rw [stage_vals h1 k (by omega)] at this
      exact this) ops.length (Array.replicate ops.length false) (fun _ => false) a w.drew K (by simp) (fun i hi' => by simp [Array.getD_eq_getD_getElem?, hi']) ⟨fun i h => by cases h⟩
      (by unfold left; exact Nat.le_trans List.countP_le_length (by simp)) hi.drew (by rw [vals_none]; exact hr.mono (.drew K w)) (hf.mono (.drew K w))
  have h2 := wpAnyIn_mono' (Q' := fun e a' w' => Post G m n K w (Q e) a' w') (fun e a' w' ⟨he, hp⟩ => by
    subst he
    refine (hp.trans (.drew K w)).mono fun T1 S1 hh => ?_
    obtain ⟨rfl, rfl⟩ := hh
    rw [← hT]; exact hq) _ _ _ _ this
  simpa using h2

end Go.Proofs.Ytffeegpjnibdnaa.LF
