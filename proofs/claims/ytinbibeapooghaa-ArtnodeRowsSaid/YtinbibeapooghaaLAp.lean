/- The walk of the law 'ArtnodeRows': nodes that were given the same children, in two rows. -/
import Derived.Test.YtinbibeapooghaaLAi
import Derived.Test.YtinbibeapooghaaLAj
import Derived.Test.YtinbibeapooghaaLGc
set_option linter.unusedVariables false
set_option linter.unusedSimpArgs false
namespace Go.Proofs.Ytinbibeapooghaa.LF
open Go.RowKit
set_option linter.unusedVariables false
attribute [local irreducible] andThen inBlock LWp LOps LCalls

theorem LVal.remT {G : Ctx} {o : Oper} {T : Nat → TV} {S : LS} {t u : TypeId} {x y : Operand} {k : IntKind} {a b : Int} (ho : o.op = .binOp .rem t x y u)
    (hx : lev T x = .one (.v (.int k a))) (hy : lev T y = .one (.v (.int k b))) (h : b ≠ 0) : LVal G o T S (.one (.v (.int k (a.tmod b)))) :=
  LVal.binOp (D := []) (fun _ h => by cases h) ho hx hy (by simp [lbin, lint]; omega)
def bL (n : Nat) : List LV := [uv (n : Nat)]
theorem u8_natB {n : Int} (h : (Lit.int .u8 n).wf = true) : ∃ m : Nat, m < 256 ∧ n = (m : Int) := by
  have h1 : 0 ≤ n ∧ n < 256 := by
    simp [Lit.wf, IntKind.min, IntKind.max, IntKind.signed, IntKind.bits] at h
    omega
  exact ⟨n.toNat, by omega, by omega⟩
theorem typed_bytesB {l : List LV} (h : Typed D 42 l) : ∃ es : List Nat, l = [.sl .sh (es.map bL)] ∧ ∀ a ∈ es, a < 256 := by
  obtain ⟨es, rfl, h2, _⟩ := typed_slice rfl rfl rfl h
  have key : ∀ es : List (List LV), (∀ c ∈ es, Typed D 5 c) → ∃ qs : List Nat, es = qs.map bL ∧ ∀ a ∈ qs, a < 256 := by
    intro es
    induction es with
    | nil => intro _; exact ⟨[], rfl, by simp⟩
    | cons c es ih =>
      intro hc
      obtain ⟨qs, rfl, h1⟩ := ih fun c' h' => hc c' (List.mem_cons_of_mem _ h')
      obtain ⟨x, rfl, wf⟩ := typed_int rfl rfl (hc c List.mem_cons_self)
      obtain ⟨m, hm, rfl⟩ := u8_natB wf
      refine ⟨m :: qs, rfl, fun x hx => ?_⟩
      rcases List.mem_cons.1 hx with rfl | hx
      · exact hm
      · exact h1 x hx
  obtain ⟨qs, rfl, h3⟩ := key es h2
  exact ⟨qs, rfl, h3⟩

/-- The kind of a node that was only set. -/
def kindUp (n : Nat) : Nat := if n ≤ 4 then 4 else if n ≤ 16 then 16 else if n ≤ 48 then 48 else 256
theorem kindUp_set {l : Kv Int} (ks : KS l) {c : Nat} (hc : c < 256) (x : Int) : setK (kindUp l.length) l c = kindUp (setL l c x).length := by
  rw [len_set ks]
  unfold setK
  cases hq : hasK l c with
  | true => rfl
  | false =>
    have hr := ks.room hc hq
    simp only [Bool.false_eq_true, if_false]
    unfold growK kindUp nextK
    generalize l.length = n at *
    by_cases h1 : n ≤ 4
    · by_cases h2 : n = 4
      · subst h2; rfl
      · rw [if_pos h1, if_neg h2, if_pos (by omega)]
    · by_cases h2 : n ≤ 16
      · by_cases h3 : n = 16
        · subst h3; rfl
        · rw [if_neg h1, if_pos h2, if_neg h3, if_neg (by omega), if_pos (by omega)]
      · by_cases h3 : n ≤ 48
        · by_cases h4 : n = 48
          · subst h4; rfl
          · rw [if_neg h1, if_neg h2, if_pos h3, if_neg h4, if_neg (by omega), if_neg (by omega), if_pos (by omega)]
        · rw [if_neg h1, if_neg h2, if_neg h3, if_neg (by omega), if_neg (by omega), if_neg (by omega), if_neg (by omega)]
theorem KS.ext {α : Type} : ∀ {l m : Kv α}, KS l → KS m → (∀ c, lk l c = lk m c) → l = m
  | [], [], _, _, _ => rfl
  | [], p :: m, _, _, h => by have := h p.1; simp [lk] at this
  | p :: l, [], _, _, h => by have := h p.1; simp [lk] at this
  | p :: l, q :: m, hl, hm, h => by
    have e : p.1 = q.1 := by
      have h1 := h p.1
      have h2 := h q.1
      simp only [lk, if_true] at h1 h2
      by_cases e : q.1 = p.1
      · exact e.symm
      · rw [if_neg e] at h1
        rw [if_neg (fun e2 => e e2.symm)] at h2
        have h3 := hm.head _ (lk_mem h1.symm)
        have h4 := hl.head _ (lk_mem h2)
        simp only at h3 h4; omega
    have e2 : p.2 = q.2 := by
      have h1 := h p.1
      simp only [lk, if_true] at h1
      rw [if_pos e.symm] at h1
      simpa using h1
    have e3 : p = q := Prod.ext e e2
    subst e3
    have := KS.ext hl.tail hm.tail fun c => by
      have h1 := h c
      simp only [lk] at h1
      by_cases ec : p.1 = c
      · rw [lk_after hl (by omega), lk_after hm (by omega)]
      · rw [if_neg ec, if_neg ec] at h1
        exact h1
    rw [this]

/-- What was given so far: the bytes at the places of I. -/
structure Given (l : List Nat) (I : Nat → Prop) (ks : Kv Int) : Prop where
  yes : ∀ i (h : i < l.length), I i → lk ks l[i] = some ((l[i] : Nat) * 3 : Int)
  no : ∀ c x, lk ks c = some x → ∃ i, ∃ h : i < l.length, l[i] = c ∧ x = ((c : Nat) * 3 : Int)
theorem Given.put {l : List Nat} {I J : Nat → Prop} {ks : Kv Int} (h : Given l I ks) {i : Nat} (hi : i < l.length) (hJ : ∀ j, J j → j < l.length → I j ∨ l[j]? = l[i]?) : Given l J (setL ks l[i] ((l[i] : Nat) * 3 : Int)) := by
  refine ⟨fun j hj hJj => ?_, fun c x hx => ?_⟩
  · rw [lk_set]
    by_cases e : l[j] = l[i]
    · rw [if_pos e, e]
    · rw [if_neg e]
      rcases hJ j hJj hj with h1 | h1
      · exact h.yes j hj h1
      · rw [List.getElem?_eq_getElem hj, List.getElem?_eq_getElem hi] at h1
        exact absurd (by simpa using h1) e
  · rw [lk_set] at hx
    by_cases e : c = l[i]
    · rw [if_pos e] at hx
      exact ⟨i, hi, e.symm, by rw [e]; simpa using hx.symm⟩
    · rw [if_neg e] at hx
      exact h.no c x hx
theorem Given.same {l : List Nat} {I J : Nat → Prop} {ks ms : Kv Int} (h : Given l I ks) (k : Given l J ms) (hI : ∀ i, i < l.length → I i) (hJ : ∀ i, i < l.length → J i) (h1 : KS ks) (h2 : KS ms) : ks = ms := by
  refine KS.ext h1 h2 fun c => ?_
  cases hq : lk ks c with
  | some x =>
    obtain ⟨i, hi, rfl, rfl⟩ := h.no c x hq
    exact (k.yes i hi (hJ i hi)).symm
  | none =>
    cases hq2 : lk ms c with
    | none => rfl
    | some x =>
      obtain ⟨i, hi, rfl, rfl⟩ := k.no c x hq2
      rw [h.yes i hi (hI i hi)] at hq
      cases hq

/-- Two nodes apart. -/
structure Two (S0 S : LS) (F E : Nat → Prop) (b e k m : Nat) (ks ms : Kv Int) : Prop where
  n : OwnI S0 S F b k ks
  m : OwnI S0 S E e m ms
  ap : ∀ c, F c → ¬ E c
theorem Two.nextN {S0 S S' : LS} {F E F' : Nat → Prop} {b e k m k' : Nat} {ks ms ks' : Kv Int} (h : Two S0 S F E b e k m ks ms) (h1 : NodeI S' F' b k' ks') (mv : MvF S F S' F') : Two S0 S' F' E b e k' m ks' ms := by
  have key : ∀ c cs, E c → S.box c = some cs → S'.box c = some cs ∧ ¬ F' c := fun c cs hc hcs => mv.box c cs hcs fun hF => h.ap c hF hc
  have ho := h.n.next h1 mv
  refine ⟨ho, ⟨ho.le, h.m.new, h.m.node.keep fun c cs hc hcs => (key c cs hc hcs).1⟩, fun c hF hE => ?_⟩
  obtain ⟨cs, hcs⟩ := h.m.node.block hE
  exact (key c cs hE hcs).2 hF
theorem Two.nextM {S0 S S' : LS} {F E E' : Nat → Prop} {b e k m m' : Nat} {ks ms ms' : Kv Int} (h : Two S0 S F E b e k m ks ms) (h1 : NodeI S' E' e m' ms') (mv : MvF S E S' E') : Two S0 S' F E' b e k m' ks ms' := by
  have key : ∀ c cs, F c → S.box c = some cs → S'.box c = some cs ∧ ¬ E' c := fun c cs hc hcs => mv.box c cs hcs fun hE => h.ap c hc hE
  have ho := h.m.next h1 mv
  refine ⟨⟨ho.le, h.n.new, h.n.node.keep fun c cs hc hcs => (key c cs hc hcs).1⟩, ho, fun c hF hE => ?_⟩
  obtain ⟨cs, hcs⟩ := h.n.node.block hF
  exact (key c cs hF hcs).2 hE

set_option maxHeartbeats 16000000 in
set_option maxRecDepth 20000 in
theorem rows_L {G : Ctx} (hP : G.P = Try.prog) (l : List Nat) (hl : ∀ a ∈ l, a < 256) (at0 : Int) (S : LS) :
    LCalls G 7 [.one (.sl .sh (l.map bL)), .one (iv at0)] (fun r _ => r = .one (bv true)) S := by
  have hD : TabOK G.P D := by rw [hP]; exact hD0
  refine LCalls.enter (fn := Try.f7) (by rw [hP]; exact Try.func7) rfl rfl ?_
  repeat (first | refine LOps.nil ?_ | refine andThen_normal ?_ | refine andThen_exit ?_ | refine andThen_ret ?_ | refine inBlock_normal ?_ | refine inBlock_ret ?_ | refine inBlock_here ?_ | refine inBlock_out rfl ?_ | refine LWp.seq ?_ | refine LWp.region ?_ | refine LWp.block ?_ | refine LWp.exit ?_ | refine LWp.ret ?_ | refine LWp.skip ?_ | refine LOps.valA ?_ | refine LOps.outA ?_ | refine LOps.whenA ?_ | refine LOps.pickA ?_ | refine LOps.storeA ?_)
  refine LWp.cond rfl (fun h => ?_) (fun h => ?_)
  · repeat (first | refine LOps.nil ?_ | refine andThen_normal ?_ | refine andThen_exit ?_ | refine andThen_ret ?_ | refine inBlock_normal ?_ | refine inBlock_ret ?_ | refine inBlock_here ?_ | refine inBlock_out rfl ?_ | refine LWp.seq ?_ | refine LWp.region ?_ | refine LWp.block ?_ | refine LWp.exit ?_ | refine LWp.ret ?_ | refine LWp.skip ?_ | refine LOps.valA ?_ | refine LOps.outA ?_ | refine LOps.whenA ?_ | refine LOps.pickA ?_ | refine LOps.storeA ?_)
    refine LOps.do (LDo.callF (wakes_L hP _) (by rw [hP]; exact Try.func8)) rfl rfl rfl ?_
    rintro _ S1 ⟨rfl, _⟩
    repeat (first | refine LOps.nil ?_ | refine andThen_normal ?_ | refine andThen_exit ?_ | refine andThen_ret ?_ | refine inBlock_normal ?_ | refine inBlock_ret ?_ | refine inBlock_here ?_ | refine inBlock_out rfl ?_ | refine LWp.seq ?_ | refine LWp.region ?_ | refine LWp.block ?_ | refine LWp.exit ?_ | refine LWp.ret ?_ | refine LWp.skip ?_ | refine LOps.valA ?_ | refine LOps.outA ?_ | refine LOps.whenA ?_ | refine LOps.pickA ?_ | refine LOps.storeA ?_)
    exact ⟨_, LRes.one rfl, rfl⟩
  have hlen : l.length ≤ 400 ∧ 0 < l.length := by
    have h : (decide ((((l.map bL).length : Nat) : Int) > 400) || ((((l.map bL).length : Nat) : Int) == 0)) = false := h
    simp at h
    have : l.length ≠ 0 := fun e => h.2 (List.length_eq_zero_iff.1 e)
    omega
  have ml : (l.map bL).length = l.length := List.length_map ..
  obtain ⟨r, hr⟩ : ∃ r : Int, at0.tmod (l.length : Int) = r := ⟨_, rfl⟩
  have hr1 : -(l.length : Int) < r ∧ r < (l.length : Int) := by
    rw [← hr]
    have h1 := Int.tmod_lt_of_pos at0 (b := (l.length : Int)) (by omega)
    have h2 : -(l.length : Int) < at0.tmod (l.length : Int) := by
      have := Int.lt_tmod_of_pos at0 (b := (l.length : Int)) (by omega)
      exact this
    exact ⟨h2, h1⟩
  repeat (first | refine LOps.valH (r := .one (iv r)) (LVal.to (LVal.remT rfl rfl rfl (by rw [ml]; omega)) (by rw [ml, hr])) ?_ | refine LWp.seq (LWp.cut 4 (fun T1 S1 => S1 = S ∧ ∃ (T2 : Nat → TV) (q : Nat), q < l.length ∧ T1 = over T2 [(0, .one (.sl .sh (l.map bL))), (5, .one (iv (q : Nat)))]) rfl ?_ ?_) | refine LOps.nil ?_ | refine andThen_normal ?_ | refine andThen_exit ?_ | refine andThen_ret ?_ | refine inBlock_normal ?_ | refine inBlock_ret ?_ | refine inBlock_here ?_ | refine inBlock_out rfl ?_ | refine LWp.seq ?_ | refine LWp.region ?_ | refine LWp.block ?_ | refine LWp.exit ?_ | refine LWp.ret ?_ | refine LWp.skip ?_ | refine LOps.valA ?_ | refine LOps.outA ?_ | refine LOps.whenA ?_ | refine LOps.pickA ?_ | refine LOps.storeA ?_)
  · repeat (first | refine LOps.nil ?_ | refine andThen_normal ?_ | refine andThen_exit ?_ | refine andThen_ret ?_ | refine inBlock_normal ?_ | refine inBlock_ret ?_ | refine inBlock_here ?_ | refine inBlock_out rfl ?_ | refine LWp.seq ?_ | refine LWp.region ?_ | refine LWp.block ?_ | refine LWp.exit ?_ | refine LWp.ret ?_ | refine LWp.skip ?_ | refine LOps.valA ?_ | refine LOps.outA ?_ | refine LOps.whenA ?_ | refine LOps.pickA ?_ | refine LOps.storeA ?_)
    refine LWp.cond rfl (fun h => ?_) (fun h => ?_)
    · have hneg : r < 0 := by have h : decide (r < 0) = true := h; simpa using h
      repeat (first | refine LOps.valH (r := .one (iv ((r + (l.length : Int)).toNat : Nat))) (LVal.to (LVal.add64 rfl rfl rfl (by rw [ml]; omega)) (by rw [ml, Int.toNat_of_nonneg (by omega)])) ?_ | refine LOps.nil ?_ | refine andThen_normal ?_ | refine andThen_exit ?_ | refine andThen_ret ?_ | refine inBlock_normal ?_ | refine inBlock_ret ?_ | refine inBlock_here ?_ | refine inBlock_out rfl ?_ | refine LWp.seq ?_ | refine LWp.region ?_ | refine LWp.block ?_ | refine LWp.exit ?_ | refine LWp.ret ?_ | refine LWp.skip ?_ | refine LOps.valA ?_ | refine LOps.outA ?_ | refine LOps.whenA ?_ | refine LOps.pickA ?_ | refine LOps.storeA ?_)
      exact ⟨rfl, _, (r + (l.length : Int)).toNat, by omega, holds.over ⟨rfl, rfl, trivial⟩⟩
    · have hneg : ¬ r < 0 := by have h : decide (r < 0) = false := h; simpa using h
      repeat (first | refine LOps.nil ?_ | refine andThen_normal ?_ | refine andThen_exit ?_ | refine andThen_ret ?_ | refine inBlock_normal ?_ | refine inBlock_ret ?_ | refine inBlock_here ?_ | refine inBlock_out rfl ?_ | refine LWp.seq ?_ | refine LWp.region ?_ | refine LWp.block ?_ | refine LWp.exit ?_ | refine LWp.ret ?_ | refine LWp.skip ?_ | refine LOps.valA ?_ | refine LOps.outA ?_ | refine LOps.whenA ?_ | refine LOps.pickA ?_ | refine LOps.storeA ?_)
      exact ⟨rfl, _, r.toNat, by omega, holds.over ⟨rfl, by rw [Int.toNat_of_nonneg (by omega)]; rfl, trivial⟩⟩
  rintro T1 S ⟨rfl, T2, q, hq, rfl⟩
  repeat (first | refine LOps.nil ?_ | refine andThen_normal ?_ | refine andThen_exit ?_ | refine andThen_ret ?_ | refine inBlock_normal ?_ | refine inBlock_ret ?_ | refine inBlock_here ?_ | refine inBlock_out rfl ?_ | refine LWp.seq ?_ | refine LWp.region ?_ | refine LWp.block ?_ | refine LWp.exit ?_ | refine LWp.ret ?_ | refine LWp.skip ?_ | refine LOps.valA ?_ | refine LOps.outA ?_ | refine LOps.whenA ?_ | refine LOps.pickA ?_ | refine LOps.storeA ?_)
  refine LOps.do (LDo.callF (newI_L hP _) (by rw [hP]; exact Try.func9)) rfl rfl rfl ?_
  rintro _ S1 ⟨b, F, rfl, le1, new1, h1⟩
  repeat (first | refine LOps.nil ?_ | refine andThen_normal ?_ | refine andThen_exit ?_ | refine andThen_ret ?_ | refine inBlock_normal ?_ | refine inBlock_ret ?_ | refine inBlock_here ?_ | refine inBlock_out rfl ?_ | refine LWp.seq ?_ | refine LWp.region ?_ | refine LWp.block ?_ | refine LWp.exit ?_ | refine LWp.ret ?_ | refine LWp.skip ?_ | refine LOps.valA ?_ | refine LOps.outA ?_ | refine LOps.whenA ?_ | refine LOps.pickA ?_ | refine LOps.storeA ?_)
  refine LOps.do (LDo.callF (newI_L hP _) (by rw [hP]; exact Try.func9)) rfl rfl rfl ?_
  rintro _ S2 ⟨e, E, rfl, le2, new2, h2⟩
  have new2' : ∀ c, E c → S.box c = none := fun c hc => by
    have h3 := new2 c hc
    cases hq : S.box c with
    | none => rfl
    | some cs => rw [le1.box _ _ hq] at h3; cases h3
  have hT : Two S S2 F E b e 4 4 [] [] := ⟨⟨le1.trans le2, new1, h1.le le2⟩, ⟨le1.trans le2, new2', h2⟩, fun c hF hE => by
    obtain ⟨cs, hcs⟩ := h1.block hF
    rw [new2 c hE] at hcs; cases hcs⟩
  have g0 : Given l (fun i => i < 0) ([] : Kv Int) := ⟨fun i h hi => by omega, fun c x hx => by cases hx⟩
  clear le1 new1 h1 le2 new2 new2' h2 S1
  repeat (first | refine LWp.seq (LWp.cut 8 (fun T1 S1 => ∃ (T2 : Nat → TV) (F E : Nat → Prop) (ks : Kv Int), Two S S1 F E b e (kindUp ks.length) 4 ks [] ∧ Given l (fun i => i < l.length) ks ∧ T1 = over T2 [(0, .one (.sl .sh (l.map bL))), (5, .one (iv (q : Nat))), (6, ptr b), (7, ptr e)]) rfl ?_ ?_) | refine LOps.nil ?_ | refine andThen_normal ?_ | refine andThen_exit ?_ | refine andThen_ret ?_ | refine inBlock_normal ?_ | refine inBlock_ret ?_ | refine inBlock_here ?_ | refine inBlock_out rfl ?_ | refine LWp.seq ?_ | refine LWp.region ?_ | refine LWp.block ?_ | refine LWp.exit ?_ | refine LWp.ret ?_ | refine LWp.skip ?_ | refine LOps.valA ?_ | refine LOps.outA ?_ | refine LOps.whenA ?_ | refine LOps.pickA ?_ | refine LOps.storeA ?_)
  · repeat (first | refine LOps.nil ?_ | refine andThen_normal ?_ | refine andThen_exit ?_ | refine andThen_ret ?_ | refine inBlock_normal ?_ | refine inBlock_ret ?_ | refine inBlock_here ?_ | refine inBlock_out rfl ?_ | refine LWp.seq ?_ | refine LWp.region ?_ | refine LWp.block ?_ | refine LWp.exit ?_ | refine LWp.ret ?_ | refine LWp.skip ?_ | refine LOps.valA ?_ | refine LOps.outA ?_ | refine LOps.whenA ?_ | refine LOps.pickA ?_ | refine LOps.storeA ?_)
    refine LWp.loop (fun m T S' => ∃ (T' : Nat → TV) (j : Nat) (F E : Nat → Prop) (ks : Kv Int), j ≤ l.length ∧ m = l.length - j ∧ Two S S' F E b e (kindUp ks.length) 4 ks [] ∧ Given l (fun i => i < j) ks ∧ T = over T' [(0, .one (.sl .sh (l.map bL))), (5, .one (iv (q : Nat))), (6, ptr b), (7, ptr e), (8, .one (iv (j : Nat)))]) l.length ?_ ?_
    · exact ⟨_, 0, F, E, [], by omega, by omega, hT, g0, holds.over ⟨rfl, rfl, rfl, rfl, rfl, trivial⟩⟩
    clear hT F E S2
    rintro m T S2 ⟨T', j, F, E, ks, hj, rfl, hT, hg, rfl⟩
    repeat (first | refine LOps.nil ?_ | refine andThen_normal ?_ | refine andThen_exit ?_ | refine andThen_ret ?_ | refine inBlock_normal ?_ | refine inBlock_ret ?_ | refine inBlock_here ?_ | refine inBlock_out rfl ?_ | refine LWp.seq ?_ | refine LWp.region ?_ | refine LWp.block ?_ | refine LWp.exit ?_ | refine LWp.ret ?_ | refine LWp.skip ?_ | refine LOps.valA ?_ | refine LOps.outA ?_ | refine LOps.whenA ?_ | refine LOps.pickA ?_ | refine LOps.storeA ?_)
    refine LWp.cond rfl (fun h => ?_) (fun h => ?_)
    · have hlt : j < l.length := by simpa using h
      have hb := hl _ (List.getElem_mem hlt)
      have ew : IntKind.i64.wrap ((l[j] : Nat) : Int) = ((l[j] : Nat) : Int) := wrap64_small (by omega)
      repeat (first | refine LOps.nil ?_ | refine andThen_normal ?_ | refine andThen_exit ?_ | refine andThen_ret ?_ | refine inBlock_normal ?_ | refine inBlock_ret ?_ | refine inBlock_here ?_ | refine inBlock_out rfl ?_ | refine LWp.seq ?_ | refine LWp.region ?_ | refine LWp.block ?_ | refine LWp.exit ?_ | refine LWp.ret ?_ | refine LWp.skip ?_ | refine LOps.valA ?_ | refine LOps.outA ?_ | refine LOps.whenA ?_ | refine LOps.pickA ?_ | refine LOps.storeA ?_)
      refine LWp.drawL [0, 1, 2, 3, 4, 5, 6, 7, 8, 9, 10, 11] (by rw [hP]; rfl) rfl ?_
      repeat (first | refine LRl.val (r := .one (iv (l[j] : Nat))) (fun _ _ => LVal.to (LVal.convInt hD rfl rfl rfl rfl rfl) (by rw [ew])) rfl rfl rfl ?_ | refine LRl.val (r := .one (iv ((l[j] : Nat) * 3 : Int))) (fun _ _ => LVal.mul64 rfl rfl rfl (by omega)) rfl rfl rfl ?_ | refine LRl.nil ?_ | refine LRl.valA ?_ | refine LRl.outA ?_ | refine LRl.whenA ?_ | refine LRl.pickA ?_)
      refine LRl.act (LDo.callF (setI_L hP hT.n.node hb ((l[j] : Nat) * 3 : Int)) (by rw [hP]; exact Try.func11)) rfl rfl rfl rfl (fun _ _ _ => .inr rfl) ?_
      rintro _ S3 ⟨rfl, F3, h3, m3⟩
      rw [kindUp_set hT.n.node.ok.ks hb ((l[j] : Nat) * 3 : Int)] at h3
      repeat (first | refine LRl.nil ?_ | refine LRl.valA ?_ | refine LRl.outA ?_ | refine LRl.whenA ?_ | refine LRl.pickA ?_)
      repeat (first | refine LOps.nil ?_ | refine andThen_normal ?_ | refine andThen_exit ?_ | refine andThen_ret ?_ | refine inBlock_normal ?_ | refine inBlock_ret ?_ | refine inBlock_here ?_ | refine inBlock_out rfl ?_ | refine LWp.seq ?_ | refine LWp.region ?_ | refine LWp.block ?_ | refine LWp.exit ?_ | refine LWp.ret ?_ | refine LWp.skip ?_ | refine LOps.valA ?_ | refine LOps.outA ?_ | refine LOps.whenA ?_ | refine LOps.pickA ?_ | refine LOps.storeA ?_)
      refine ⟨l.length - (j + 1), by omega, _, j + 1, F3, E, _, by omega, rfl, hT.nextN h3 m3, hg.put hlt fun i hi _ => ?_, holds.over ⟨rfl, rfl, rfl, rfl, rfl, trivial⟩⟩
      rcases Nat.lt_or_ge i j with h5 | h5
      · exact .inl h5
      · obtain rfl : i = j := by omega
        exact .inr rfl
    · have hge : j = l.length := by simp at h; omega
      subst hge
      repeat (first | refine LOps.nil ?_ | refine andThen_normal ?_ | refine andThen_exit ?_ | refine andThen_ret ?_ | refine inBlock_normal ?_ | refine inBlock_ret ?_ | refine inBlock_here ?_ | refine inBlock_out rfl ?_ | refine LWp.seq ?_ | refine LWp.region ?_ | refine LWp.block ?_ | refine LWp.exit ?_ | refine LWp.ret ?_ | refine LWp.skip ?_ | refine LOps.valA ?_ | refine LOps.outA ?_ | refine LOps.whenA ?_ | refine LOps.pickA ?_ | refine LOps.storeA ?_)
      exact ⟨_, F, E, ks, hT, hg, holds.over ⟨rfl, rfl, rfl, rfl, trivial⟩⟩
  clear hT F E S2
  rintro T1 S1 ⟨T2, F, E, ks, hT, hg, rfl⟩
  repeat (first | refine LWp.seq (LWp.cut 12 (fun T1 S1 => ∃ (T2 : Nat → TV) (E : Nat → Prop) (ms : Kv Int), Two S S1 F E b e (kindUp ks.length) (kindUp ms.length) ks ms ∧ Given l (fun i => i < l.length) ms ∧ T1 = over T2 [(6, ptr b), (7, ptr e)]) rfl ?_ ?_) | refine LOps.nil ?_ | refine andThen_normal ?_ | refine andThen_exit ?_ | refine andThen_ret ?_ | refine inBlock_normal ?_ | refine inBlock_ret ?_ | refine inBlock_here ?_ | refine inBlock_out rfl ?_ | refine LWp.seq ?_ | refine LWp.region ?_ | refine LWp.block ?_ | refine LWp.exit ?_ | refine LWp.ret ?_ | refine LWp.skip ?_ | refine LOps.valA ?_ | refine LOps.outA ?_ | refine LOps.whenA ?_ | refine LOps.pickA ?_ | refine LOps.storeA ?_)
  · repeat (first | refine LOps.nil ?_ | refine andThen_normal ?_ | refine andThen_exit ?_ | refine andThen_ret ?_ | refine inBlock_normal ?_ | refine inBlock_ret ?_ | refine inBlock_here ?_ | refine inBlock_out rfl ?_ | refine LWp.seq ?_ | refine LWp.region ?_ | refine LWp.block ?_ | refine LWp.exit ?_ | refine LWp.ret ?_ | refine LWp.skip ?_ | refine LOps.valA ?_ | refine LOps.outA ?_ | refine LOps.whenA ?_ | refine LOps.pickA ?_ | refine LOps.storeA ?_)
    refine LWp.loop (fun m T S' => ∃ (T' : Nat → TV) (j : Nat) (E : Nat → Prop) (ms : Kv Int), j ≤ l.length ∧ m = j ∧ Two S S' F E b e (kindUp ks.length) (kindUp ms.length) ks ms ∧ Given l (fun i => ∃ p, j ≤ p ∧ p < l.length ∧ (p + q) % l.length = i) ms ∧ T = over T' [(0, .one (.sl .sh (l.map bL))), (5, .one (iv (q : Nat))), (6, ptr b), (7, ptr e), (9, .one (iv ((j : Int) - 1)))]) l.length ?_ ?_
    · exact ⟨_, l.length, E, [], by omega, rfl, hT, ⟨fun i h ⟨p, h1, h2, _⟩ => by omega, fun c x hx => by cases hx⟩, holds.over ⟨rfl, rfl, rfl, rfl, by show TV.one (iv ((((l.map bL).length : Nat) : Int) - 1)) = _; rw [ml], trivial⟩⟩
    clear hT E S1
    rintro j T S1 ⟨T', _, E, ms, hj, rfl, hT, hg2, rfl⟩
    repeat (first | refine LOps.nil ?_ | refine andThen_normal ?_ | refine andThen_exit ?_ | refine andThen_ret ?_ | refine inBlock_normal ?_ | refine inBlock_ret ?_ | refine inBlock_here ?_ | refine inBlock_out rfl ?_ | refine LWp.seq ?_ | refine LWp.region ?_ | refine LWp.block ?_ | refine LWp.exit ?_ | refine LWp.ret ?_ | refine LWp.skip ?_ | refine LOps.valA ?_ | refine LOps.outA ?_ | refine LOps.whenA ?_ | refine LOps.pickA ?_ | refine LOps.storeA ?_)
    refine LWp.cond rfl (fun h => ?_) (fun h => ?_)
    · have hpos : 0 < j := by have h : decide ((j : Int) - 1 ≥ 0) = true := h; simp at h; omega
      have hmod : (j - 1 + q) % l.length < l.length := Nat.mod_lt _ hlen.2
      obtain ⟨i, hi⟩ : ∃ i, (j - 1 + q) % l.length = i := ⟨_, rfl⟩
      have hil : i < l.length := by rw [← hi]; exact hmod
      have hb := hl _ (List.getElem_mem hil)
      have ei : ((j : Int) - 1 + (q : Int)) % ((l.length : Nat) : Int) = ((i : Nat) : Int) := by
        rw [show (j : Int) - 1 + (q : Int) = ((j - 1 + q : Nat) : Int) by omega, ← hi]
        exact (Int.natCast_emod _ _).symm
      have ew : IntKind.i64.wrap ((l[i] : Nat) : Int) = ((l[i] : Nat) : Int) := wrap64_small (by omega)
      repeat (first | refine LOps.nil ?_ | refine andThen_normal ?_ | refine andThen_exit ?_ | refine andThen_ret ?_ | refine inBlock_normal ?_ | refine inBlock_ret ?_ | refine inBlock_here ?_ | refine inBlock_out rfl ?_ | refine LWp.seq ?_ | refine LWp.region ?_ | refine LWp.block ?_ | refine LWp.exit ?_ | refine LWp.ret ?_ | refine LWp.skip ?_ | refine LOps.valA ?_ | refine LOps.outA ?_ | refine LOps.whenA ?_ | refine LOps.pickA ?_ | refine LOps.storeA ?_)
      refine LWp.drawL [0, 1, 2, 3, 4, 5, 6, 7, 8, 9, 10, 11, 12, 13, 14, 15, 16, 17, 18, 19, 20, 21] (by rw [hP]; rfl) rfl ?_
      repeat (first | refine LRl.val (r := .one (iv ((j : Int) - 1 + (q : Int)))) (fun _ _ => LVal.add64 rfl rfl rfl (by omega)) rfl rfl rfl ?_ | refine LRl.val (r := .one (iv (i : Nat))) (fun _ _ => LVal.to (LVal.remI rfl rfl rfl (by rw [ml]; omega)) (by rw [ml, ei])) rfl rfl rfl ?_ | refine LRl.val (r := .one (iv (l[i] : Nat))) (fun _ _ => LVal.to (LVal.convInt hD rfl rfl rfl rfl rfl) (by rw [ew])) rfl rfl rfl ?_ | refine LRl.val (r := .one (iv ((l[i] : Nat) * 3 : Int))) (fun _ _ => LVal.mul64 rfl rfl rfl (by omega)) rfl rfl rfl ?_ | refine LRl.nil ?_ | refine LRl.valA ?_ | refine LRl.outA ?_ | refine LRl.whenA ?_ | refine LRl.pickA ?_)
      refine LRl.act (LDo.callF (setI_L hP hT.m.node hb ((l[i] : Nat) * 3 : Int)) (by rw [hP]; exact Try.func11)) rfl rfl rfl rfl (fun _ _ _ => .inr rfl) ?_
      rintro _ S3 ⟨rfl, E3, h3, m3⟩
      rw [kindUp_set hT.m.node.ok.ks hb ((l[i] : Nat) * 3 : Int)] at h3
      repeat (first | refine LRl.nil ?_ | refine LRl.valA ?_ | refine LRl.outA ?_ | refine LRl.whenA ?_ | refine LRl.pickA ?_)
      repeat (first | refine LOps.valH (r := .one (iv (((j - 1 : Nat) : Int) - 1))) (LVal.to (LVal.sub64 rfl rfl rfl (by omega)) (by rw [show (j : Int) - 1 - 1 = ((j - 1 : Nat) : Int) - 1 by omega])) ?_ | refine LOps.nil ?_ | refine andThen_normal ?_ | refine andThen_exit ?_ | refine andThen_ret ?_ | refine inBlock_normal ?_ | refine inBlock_ret ?_ | refine inBlock_here ?_ | refine inBlock_out rfl ?_ | refine LWp.seq ?_ | refine LWp.region ?_ | refine LWp.block ?_ | refine LWp.exit ?_ | refine LWp.ret ?_ | refine LWp.skip ?_ | refine LOps.valA ?_ | refine LOps.outA ?_ | refine LOps.whenA ?_ | refine LOps.pickA ?_ | refine LOps.storeA ?_)
      refine ⟨j - 1, by omega, _, j - 1, E3, _, by omega, rfl, hT.nextM h3 m3, hg2.put hil fun p hp _ => ?_, holds.over ⟨rfl, rfl, rfl, rfl, rfl, trivial⟩⟩
      obtain ⟨x, h5, h6, h7⟩ := hp
      rcases Nat.lt_or_ge x j with h8 | h8
      · obtain rfl : x = j - 1 := by omega
        rw [hi] at h7
        subst h7
        exact .inr rfl
      · exact .inl ⟨x, h8, h6, h7⟩
    · have h0 : j = 0 := by have h : decide ((j : Int) - 1 ≥ 0) = false := h; simp at h; omega
      subst h0
      repeat (first | refine LOps.nil ?_ | refine andThen_normal ?_ | refine andThen_exit ?_ | refine andThen_ret ?_ | refine inBlock_normal ?_ | refine inBlock_ret ?_ | refine inBlock_here ?_ | refine inBlock_out rfl ?_ | refine LWp.seq ?_ | refine LWp.region ?_ | refine LWp.block ?_ | refine LWp.exit ?_ | refine LWp.ret ?_ | refine LWp.skip ?_ | refine LOps.valA ?_ | refine LOps.outA ?_ | refine LOps.whenA ?_ | refine LOps.pickA ?_ | refine LOps.storeA ?_)
      refine ⟨_, E, ms, hT, ⟨fun i hi _ => hg2.yes i hi ⟨(i + l.length - q) % l.length, by omega, Nat.mod_lt _ hlen.2, ?_⟩, hg2.no⟩, holds.over ⟨rfl, rfl, trivial⟩⟩
      rw [Nat.mod_add_mod, show i + l.length - q + q = i + l.length by omega, Nat.add_mod_right, Nat.mod_eq_of_lt hi]
  clear hT E S1
  rintro T1 S1 ⟨T2, E, ms, hT, hg2, rfl⟩
  obtain rfl := hg.same hg2 (fun i h => h) (fun i h => h) hT.n.node.ok.ks hT.m.node.ok.ks
  have c1 := nodeI_len hP hT.n.node
  have c2 := nodeI_len hP hT.m.node
  have c3 := nodeI_kind hP hT.n.node
  have c4 := nodeI_kind hP hT.m.node
  repeat (first | refine LOps.valH (LVal.callS c1 (by rw [hP]; exact Try.func20) rfl rfl rfl (by decide)) ?_ | refine LOps.valH (LVal.callS c2 (by rw [hP]; exact Try.func20) rfl rfl rfl (by decide)) ?_ | refine LOps.whenC (LVal.callS c3 (by rw [hP]; exact Try.func21) rfl rfl rfl (by decide)) ?_ | refine LOps.whenC (LVal.callS c4 (by rw [hP]; exact Try.func21) rfl rfl rfl (by decide)) ?_ | refine LOps.nil ?_ | refine andThen_normal ?_ | refine andThen_exit ?_ | refine andThen_ret ?_ | refine inBlock_normal ?_ | refine inBlock_ret ?_ | refine inBlock_here ?_ | refine inBlock_out rfl ?_ | refine LWp.seq ?_ | refine LWp.region ?_ | refine LWp.block ?_ | refine LWp.exit ?_ | refine LWp.ret ?_ | refine LWp.skip ?_ | refine LOps.valA ?_ | refine LOps.outA ?_ | refine LOps.whenA ?_ | refine LOps.pickA ?_ | refine LOps.storeA ?_)
  refine LWp.cond rfl (fun h => ?_) (fun h => ?_)
  · exact absurd h (by simp)
  clear h c1 c2 c3 c4
  repeat (first | refine LOps.nil ?_ | refine andThen_normal ?_ | refine andThen_exit ?_ | refine andThen_ret ?_ | refine inBlock_normal ?_ | refine inBlock_ret ?_ | refine inBlock_here ?_ | refine inBlock_out rfl ?_ | refine LWp.seq ?_ | refine LWp.region ?_ | refine LWp.block ?_ | refine LWp.exit ?_ | refine LWp.ret ?_ | refine LWp.skip ?_ | refine LOps.valA ?_ | refine LOps.outA ?_ | refine LOps.whenA ?_ | refine LOps.pickA ?_ | refine LOps.storeA ?_)
  refine LWp.loop (fun m T S' => S' = S1 ∧ ∃ (T' : Nat → TV) (j : Nat), j ≤ 258 ∧ m = 258 - j ∧ T = over T' [(6, ptr b), (7, ptr e), (10, .one (iv ((j : Int) - 1)))]) 258 ?_ ?_
  · exact ⟨rfl, _, 0, by omega, rfl, holds.over ⟨rfl, rfl, rfl, trivial⟩⟩
  rintro m T S1 ⟨rfl, T', j, hj, rfl, rfl⟩
  repeat (first | refine LOps.nil ?_ | refine andThen_normal ?_ | refine andThen_exit ?_ | refine andThen_ret ?_ | refine inBlock_normal ?_ | refine inBlock_ret ?_ | refine inBlock_here ?_ | refine inBlock_out rfl ?_ | refine LWp.seq ?_ | refine LWp.region ?_ | refine LWp.block ?_ | refine LWp.exit ?_ | refine LWp.ret ?_ | refine LWp.skip ?_ | refine LOps.valA ?_ | refine LOps.outA ?_ | refine LOps.whenA ?_ | refine LOps.pickA ?_ | refine LOps.storeA ?_)
  refine LWp.cond rfl (fun h => ?_) (fun h => ?_)
  · have hlt : j < 258 := by have h : decide ((j : Int) - 1 ≤ 256) = true := h; simp at h; omega
    have c1 := nodeI_from hP hT.n.node ((j : Int) - 1)
    have c2 := nodeI_from hP hT.m.node ((j : Int) - 1)
    cases hq2 : fromL ks ((j : Int) - 1) with
    | none =>
      rw [hq2] at c1 c2
      repeat (first | refine LOps.valH (r := .tup [.one (uv 0), .one (iv 0), .one (bv false)]) (LVal.callS c1 (by rw [hP]; exact Try.func15) rfl rfl rfl (by decide)) ?_ | refine LOps.valH (r := .tup [.one (uv 0), .one (iv 0), .one (bv false)]) (LVal.callS c2 (by rw [hP]; exact Try.func15) rfl rfl rfl (by decide)) ?_ | refine LWp.condF rfl ?_ | refine LOps.valH (r := .one (iv (((j + 1 : Nat) : Int) - 1))) (LVal.to (LVal.add64 rfl rfl rfl (by omega)) (by rw [show (j : Int) - 1 + 1 = ((j + 1 : Nat) : Int) - 1 by omega])) ?_ | refine LOps.nil ?_ | refine andThen_normal ?_ | refine andThen_exit ?_ | refine andThen_ret ?_ | refine inBlock_normal ?_ | refine inBlock_ret ?_ | refine inBlock_here ?_ | refine inBlock_out rfl ?_ | refine LWp.seq ?_ | refine LWp.region ?_ | refine LWp.block ?_ | refine LWp.exit ?_ | refine LWp.ret ?_ | refine LWp.skip ?_ | refine LOps.valA ?_ | refine LOps.outA ?_ | refine LOps.whenA ?_ | refine LOps.pickA ?_ | refine LOps.storeA ?_)
      exact ⟨258 - (j + 1), by omega, rfl, _, j + 1, by omega, rfl, holds.over ⟨rfl, rfl, rfl, trivial⟩⟩
    | some p =>
      rw [hq2] at c1 c2
      repeat (first | refine LOps.valH (r := .tup [.one (uv (p.1 : Nat)), .one (iv p.2), .one (bv true)]) (LVal.callS c1 (by rw [hP]; exact Try.func15) rfl rfl rfl (by decide)) ?_ | refine LOps.valH (r := .tup [.one (uv (p.1 : Nat)), .one (iv p.2), .one (bv true)]) (LVal.callS c2 (by rw [hP]; exact Try.func15) rfl rfl rfl (by decide)) ?_ | refine LWp.condF rfl ?_ | refine LOps.valH (r := .one (iv (((j + 1 : Nat) : Int) - 1))) (LVal.to (LVal.add64 rfl rfl rfl (by omega)) (by rw [show (j : Int) - 1 + 1 = ((j + 1 : Nat) : Int) - 1 by omega])) ?_ | refine LOps.nil ?_ | refine andThen_normal ?_ | refine andThen_exit ?_ | refine andThen_ret ?_ | refine inBlock_normal ?_ | refine inBlock_ret ?_ | refine inBlock_here ?_ | refine inBlock_out rfl ?_ | refine LWp.seq ?_ | refine LWp.region ?_ | refine LWp.block ?_ | refine LWp.exit ?_ | refine LWp.ret ?_ | refine LWp.skip ?_ | refine LOps.valA ?_ | refine LOps.outA ?_ | refine LOps.whenA ?_ | refine LOps.pickA ?_ | refine LOps.storeA ?_)
      exact ⟨258 - (j + 1), by omega, rfl, _, j + 1, by omega, rfl, holds.over ⟨rfl, rfl, rfl, trivial⟩⟩
  · repeat (first | refine LOps.nil ?_ | refine andThen_normal ?_ | refine andThen_exit ?_ | refine andThen_ret ?_ | refine inBlock_normal ?_ | refine inBlock_ret ?_ | refine inBlock_here ?_ | refine inBlock_out rfl ?_ | refine LWp.seq ?_ | refine LWp.region ?_ | refine LWp.block ?_ | refine LWp.exit ?_ | refine LWp.ret ?_ | refine LWp.skip ?_ | refine LOps.valA ?_ | refine LOps.outA ?_ | refine LOps.whenA ?_ | refine LOps.pickA ?_ | refine LOps.storeA ?_)
    refine LOps.do (LDo.callF (wakes_L hP _) (by rw [hP]; exact Try.func8)) rfl rfl rfl ?_
    rintro _ S2 ⟨rfl, _⟩
    repeat (first | refine LOps.nil ?_ | refine andThen_normal ?_ | refine andThen_exit ?_ | refine andThen_ret ?_ | refine inBlock_normal ?_ | refine inBlock_ret ?_ | refine inBlock_here ?_ | refine inBlock_out rfl ?_ | refine LWp.seq ?_ | refine LWp.region ?_ | refine LWp.block ?_ | refine LWp.exit ?_ | refine LWp.ret ?_ | refine LWp.skip ?_ | refine LOps.valA ?_ | refine LOps.outA ?_ | refine LOps.whenA ?_ | refine LOps.pickA ?_ | refine LOps.storeA ?_)
    exact ⟨_, LRes.one rfl, rfl⟩
end Go.Proofs.Ytinbibeapooghaa.LF

namespace Go.Proofs.Ytinbibeapooghaa
open Go.RowKit LF
theorem artnodeRows_walk (W : World) (v0 : Value) (l0 : List LV) (y0 : Typed LF.D 42 l0) (g0 : RepT (G0 Try.prog W) W (allCells W) (argTV ti42 l0) v0) (v1 : Value) (l1 : List LV) (y1 : Typed LF.D 3 l1) (g1 : RepT (G0 Try.prog W) W (allCells W) (argTV ti3 l1) v1) :
    Calls Try.prog 7 #[v0, v1] W fun e W' => e = .returned (.bool true) ∧ Below W.heap.size W W' := by
  obtain ⟨l, rfl, hl⟩ := typed_bytesB y0
  obtain ⟨x, rfl, _⟩ := typed_int rfl rfl y1
  exact law_calls (fun G S h => rows_L h l hl x S) (.cons (vs := [v1]) g0 (.cons (vs := []) g1 .nil))
end Go.Proofs.Ytinbibeapooghaa
